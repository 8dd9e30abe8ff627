/- A record put behind a log. -/
import Derived.Test.YtanfmpkjcoolmaaMmA
set_option linter.unusedVariables false
set_option linter.unusedSimpArgs false
namespace Go.Proofs.Ytanfmpkjcoolmaa.Mm
open Go Go.Abs Go.Abs.Tb Of Og Oh Ol
attribute [local irreducible] AWP AOps Does

set_option maxHeartbeats 4000000 in
theorem moves_1 (L : Bool → List Et) (T : Bool → Tb) (ep : Int) (jo : Bool) (nx : Int) (k : Nat) (hk : k < 300) (f : Bool → Option Bool) (C : Bool → Cap) (S1 : List Ob) (hs : Stt k ⟨L, T, true, ep, jo, nx⟩ C S1) (m : Mv) (K : D → List Ob → Prop) (hK : ∀ w f C S2, Stt (k + 1) w C S2 → K (.tup []) (.box (wb w f C) :: S2)) : DoesK Try.prog 159 [.bp 0 0, .agg (mz m)] (Ob.box (wzz (.sl (f false) ((L false).map etz) (C false)) (.sl (f true) ((L true).map etz) (C true)) (T false) (T true) 1 ep jo nx) :: S1) K := by
  refine DoesK.of_body (rvs := []) Try.func159 rfl rfl rfl rfl ?_
  have hI := hs.inv
  have hep : 0 ≤ ep ∧ ep ≤ k := hI.ep
  have hnx : 0 ≤ nx ∧ nx ≤ k := hs.nx
  have hg : ∀ c, (T c).good = true := fun c => (hI.desc c).good
  have hln : ∀ c, (L c).length ≤ k := hI.len
  have hlf := hln false
  have hlt := hln true
  have htl : ∀ c, (T c).l.length ≤ 1048576 := fun c => by { have h1 := Tb.desc_spans (hI.desc c); have h2 := (hI.desc c).len; have h3 := hln c; dsimp only at h1 h2; omega }
  obtain ⟨n, hcom, hn1, hn2, hn3, hn4⟩ := com_logs (hI.desc false) (hI.desc true) (hI.mt false)
  dsimp only at hcom hn1 hn2 hn3
  have hcm := l_com (T false) (T true) (htl false) (htl true)
  rw [may_same (hg false), may_same (hg true), hcom] at hcm
  obtain ⟨hcE, hcI⟩ := hI.join (n := n) hn1 (by dsimp only; exact hn3.symm)
  dsimp only at hcE
  have hct := l_cut (T false) (n : Int) (htl false)
  rw [may_same (hg false), show (T false).cutE (n : Int) = 0 from hcE] at hct
  refine AWP.seq ?_
  refine AWP.region ?_
  refine n_box rfl (by first | (simp only [nf, nfS, Nat.beq] <;> rfl) | rfl) rfl rfl (by first | (simp only [nf, nfS, Nat.beq] <;> rfl) | rfl) (by first | (simp only [nf, nfS, Nat.beq] <;> rfl) | rfl) ?_
  refine AOps.nil ?_
  refine AWP.seq ?_
  refine AWP.region ?_
  refine n_move rfl (by first | (simp only [nf, nfS, Nat.beq] <;> rfl) | rfl) ?_
  refine n_nilCheck rfl (by first | (simp only [nf, nfS, Nat.beq] <;> rfl) | rfl) rfl ?_
  refine n_fieldAddr rfl fd217_2 ti3 rfl (by first | (simp only [nf, nfS, Nat.beq] <;> rfl) | rfl) rfl (by first | (simp only [nf, nfS, Nat.beq] <;> rfl) | rfl) ?_
  refine n_load rfl ti3 (by first | (simp only [nf, nfS, Nat.beq] <;> rfl) | rfl) (by first | (simp only [nf, nfS, Nat.beq] <;> rfl) | rfl) rfl (by first | (simp only [nf, nfS, Nat.beq] <;> rfl) | rfl) ?_
  refine n_isub (c := 0) rfl (by first | (simp only [nf, nfS, Nat.beq] <;> rfl) | rfl) (by first | (simp only [nf, nfS, Nat.beq] <;> rfl) | rfl) (by decide) (by decide) (by decide) ?_
  refine n_assign rfl (by first | (simp only [nf, nfS, Nat.beq] <;> rfl) | rfl) ?_
  refine AOps.nil ?_
  refine AWP.seq ?_
  refine AWP.region ?_
  refine n_fieldAddr rfl fd219_0 ti3 rfl (by first | (simp only [nf, nfS, Nat.beq] <;> rfl) | rfl) rfl (by first | (simp only [nf, nfS, Nat.beq] <;> rfl) | rfl) ?_
  refine n_load rfl ti3 (by first | (simp only [nf, nfS, Nat.beq] <;> rfl) | rfl) (by first | (simp only [nf, nfS, Nat.beq] <;> rfl) | rfl) rfl (by first | (simp only [nf, nfS, Nat.beq] <;> rfl) | rfl) ?_
  refine AOps.nil ?_
  refine AWP.block ?_
  refine AWP.seq ?_
  refine AWP.region ?_
  refine n_ibin rfl (by first | (simp only [nf, nfS, Nat.beq] <;> rfl) | rfl) (by first | (simp only [nf, nfS, Nat.beq] <;> rfl) | rfl) rfl ?_
  refine n_assign rfl (by first | (simp only [nf, nfS, Nat.beq] <;> rfl) | rfl) ?_
  refine AOps.nil ?_
  refine AWP.cond (by first | (simp only [nf, nfS, Nat.beq] <;> rfl) | rfl) (fun hc1 => ?_) (fun hc1 => ?_)
  · try simp only [nh] at hc1
    refine AWP.seq ?_
    refine AWP.region ?_
    refine n_move rfl (by first | (simp only [nf, nfS, Nat.beq] <;> rfl) | rfl) ?_
    refine n_move rfl (by first | (simp only [nf, nfS, Nat.beq] <;> rfl) | rfl) ?_
    refine n_fieldAddr rfl fd219_1 ti3 rfl (by first | (simp only [nf, nfS, Nat.beq] <;> rfl) | rfl) rfl (by first | (simp only [nf, nfS, Nat.beq] <;> rfl) | rfl) ?_
    refine n_load rfl ti3 (by first | (simp only [nf, nfS, Nat.beq] <;> rfl) | rfl) (by first | (simp only [nf, nfS, Nat.beq] <;> rfl) | rfl) rfl (by first | (simp only [nf, nfS, Nat.beq] <;> rfl) | rfl) ?_
    refine n_and1 rfl (by first | (simp only [nf, nfS, Nat.beq] <;> rfl) | rfl) (by first | (simp only [nf, nfS, Nat.beq] <;> rfl) | rfl) (fun c => ?_)
    refine n_nilCheck rfl (by first | (simp only [nf, nfS, Nat.beq] <;> rfl) | rfl) rfl ?_
    refine n_fieldAddr rfl fd217_2 ti3 rfl (by first | (simp only [nf, nfS, Nat.beq] <;> rfl) | rfl) rfl (by first | (simp only [nf, nfS, Nat.beq] <;> rfl) | rfl) ?_
    refine n_store ti3 (by first | (simp only [nf, nfS, Nat.beq] <;> rfl) | rfl) (by first | (simp only [nf, nfS, Nat.beq] <;> rfl) | rfl) (by first | (simp only [nf, nfS, Nat.beq] <;> rfl) | rfl) rfl (by first | (simp only [nf, nfS, Nat.beq] <;> rfl) | rfl) rfl rfl rfl (by first | (simp only [nf, nfS, Nat.beq] <;> rfl) | rfl) ?_
    refine n_nilCheck rfl (by first | (simp only [nf, nfS, Nat.beq] <;> rfl) | rfl) rfl ?_
    refine n_fieldAddr rfl fd217_4 ti4 rfl (by first | (simp only [nf, nfS, Nat.beq] <;> rfl) | rfl) rfl (by first | (simp only [nf, nfS, Nat.beq] <;> rfl) | rfl) ?_
    refine n_store ti4 (by first | (simp only [nf, nfS, Nat.beq] <;> rfl) | rfl) (by first | (simp only [nf, nfS, Nat.beq] <;> rfl) | rfl) (by first | (simp only [nf, nfS, Nat.beq] <;> rfl) | rfl) rfl (by first | (simp only [nf, nfS, Nat.beq] <;> rfl) | rfl) rfl rfl rfl (by first | (simp only [nf, nfS, Nat.beq] <;> rfl) | rfl) ?_
    refine AOps.nil ?_
    refine AWP.region ?_
    refine n_move rfl (by first | (simp only [nf, nfS, Nat.beq] <;> rfl) | rfl) ?_
    refine n_nilCheck rfl (by first | (simp only [nf, nfS, Nat.beq] <;> rfl) | rfl) rfl ?_
    refine n_fieldAddr rfl fd217_3 ti2 rfl (by first | (simp only [nf, nfS, Nat.beq] <;> rfl) | rfl) rfl (by first | (simp only [nf, nfS, Nat.beq] <;> rfl) | rfl) ?_
    refine n_load rfl ti2 (by first | (simp only [nf, nfS, Nat.beq] <;> rfl) | rfl) (by first | (simp only [nf, nfS, Nat.beq] <;> rfl) | rfl) rfl (by first | (simp only [nf, nfS, Nat.beq] <;> rfl) | rfl) ?_
    first | refine n_iadd rfl (by first | (simp only [nf, nfS, Nat.beq] <;> rfl) | rfl) (by first | (simp only [nf, nfS, Nat.beq] <;> rfl) | rfl) rfl (by omega) (by omega) ?_ | refine n_ibin rfl (by first | (simp only [nf, nfS, Nat.beq] <;> rfl) | rfl) (by first | (simp only [nf, nfS, Nat.beq] <;> rfl) | rfl) rfl ?_
    refine n_nilCheck rfl (by first | (simp only [nf, nfS, Nat.beq] <;> rfl) | rfl) rfl ?_
    refine n_fieldAddr rfl fd217_3 ti2 rfl (by first | (simp only [nf, nfS, Nat.beq] <;> rfl) | rfl) rfl (by first | (simp only [nf, nfS, Nat.beq] <;> rfl) | rfl) ?_
    refine n_store ti2 (by first | (simp only [nf, nfS, Nat.beq] <;> rfl) | rfl) (by first | (simp only [nf, nfS, Nat.beq] <;> rfl) | rfl) (by first | (simp only [nf, nfS, Nat.beq] <;> rfl) | rfl) rfl (by first | (simp only [nf, nfS, Nat.beq] <;> rfl) | rfl) rfl rfl rfl (by first | (simp only [nf, nfS, Nat.beq] <;> rfl) | rfl) ?_
    refine AOps.nil ?_
    refine finK_normal .nil (by first | (simp only [nf, nfS, Nat.beq] <;> rfl) | rfl) ?_
    first
    | exact hK { putW ⟨L, T, true, ep, jo, nx⟩ true ⟨nx + 1, ep, reg true⟩ with nx := nx + 1 } (at2 f true none) (at2 C true (.own (j + 1))) _ (hs.app.put true hA2 (by omega) hk2)
    | exact hK { putW ⟨L, T, true, ep, b157, nx⟩ false x with nx := nx } (at2 f false none) (at2 C false (.own (j + 1))) _ (hs.app.put (n := nx) false hM2 (by omega) hk2)
    | exact hK (joinW ⟨L, T, true, ep, jo, nx⟩ n) f (at2 C false .full) _ (hs.app.join hcI)
    | exact hK _ f C _ (hs.app.take c)
    | exact hK ⟨L, T, true, ep, jo, nx⟩ f C _ hs.app.more
    | exact hK ⟨L, T, true, ep, b157, nx⟩ f C _ hs.app.more
  · try simp only [nh] at hc1
    refine AWP.seq ?_
    refine AWP.region ?_
    refine n_ibin rfl (by first | (simp only [nf, nfS, Nat.beq] <;> rfl) | rfl) (by first | (simp only [nf, nfS, Nat.beq] <;> rfl) | rfl) rfl ?_
    refine n_assign rfl (by first | (simp only [nf, nfS, Nat.beq] <;> rfl) | rfl) ?_
    refine AOps.nil ?_
    refine AWP.cond (by first | (simp only [nf, nfS, Nat.beq] <;> rfl) | rfl) (fun hc2 => ?_) (fun hc2 => ?_)
    · try simp only [nh] at hc2
      refine AWP.seq ?_
      refine AWP.region ?_
      refine n_move rfl (by first | (simp only [nf, nfS, Nat.beq] <;> rfl) | rfl) ?_
      refine n_nilCheck rfl (by first | (simp only [nf, nfS, Nat.beq] <;> rfl) | rfl) rfl ?_
      refine n_fieldAddr rfl fd217_3 ti2 rfl (by first | (simp only [nf, nfS, Nat.beq] <;> rfl) | rfl) rfl (by first | (simp only [nf, nfS, Nat.beq] <;> rfl) | rfl) ?_
      refine n_load rfl ti2 (by first | (simp only [nf, nfS, Nat.beq] <;> rfl) | rfl) (by first | (simp only [nf, nfS, Nat.beq] <;> rfl) | rfl) rfl (by first | (simp only [nf, nfS, Nat.beq] <;> rfl) | rfl) ?_
      refine n_ibin rfl (by first | (simp only [nf, nfS, Nat.beq] <;> rfl) | rfl) (by first | (simp only [nf, nfS, Nat.beq] <;> rfl) | rfl) rfl ?_
      refine AOps.nil ?_
      refine AWP.cond (by first | (simp only [nf, nfS, Nat.beq] <;> rfl) | rfl) (fun hc3 => ?_) (fun hc3 => ?_)
      · try simp only [nh] at hc3
        have hA := hI.append (by omega) hc3 (nx + 1)
        obtain ⟨hA1, hA2⟩ := hA
        dsimp only at hA1 hA2
        refine AWP.seq ?_
        refine AWP.region ?_
        refine n_move rfl (by first | (simp only [nf, nfS, Nat.beq] <;> rfl) | rfl) ?_
        refine n_nilCheck rfl (by first | (simp only [nf, nfS, Nat.beq] <;> rfl) | rfl) rfl ?_
        refine n_fieldAddr rfl fd217_5 ti3 rfl (by first | (simp only [nf, nfS, Nat.beq] <;> rfl) | rfl) rfl (by first | (simp only [nf, nfS, Nat.beq] <;> rfl) | rfl) ?_
        refine n_load rfl ti3 (by first | (simp only [nf, nfS, Nat.beq] <;> rfl) | rfl) (by first | (simp only [nf, nfS, Nat.beq] <;> rfl) | rfl) rfl (by first | (simp only [nf, nfS, Nat.beq] <;> rfl) | rfl) ?_
        first | refine n_iadd rfl (by first | (simp only [nf, nfS, Nat.beq] <;> rfl) | rfl) (by first | (simp only [nf, nfS, Nat.beq] <;> rfl) | rfl) rfl (by omega) (by omega) ?_ | refine n_ibin rfl (by first | (simp only [nf, nfS, Nat.beq] <;> rfl) | rfl) (by first | (simp only [nf, nfS, Nat.beq] <;> rfl) | rfl) rfl ?_
        refine n_nilCheck rfl (by first | (simp only [nf, nfS, Nat.beq] <;> rfl) | rfl) rfl ?_
        refine n_fieldAddr rfl fd217_5 ti3 rfl (by first | (simp only [nf, nfS, Nat.beq] <;> rfl) | rfl) rfl (by first | (simp only [nf, nfS, Nat.beq] <;> rfl) | rfl) ?_
        refine n_store ti3 (by first | (simp only [nf, nfS, Nat.beq] <;> rfl) | rfl) (by first | (simp only [nf, nfS, Nat.beq] <;> rfl) | rfl) (by first | (simp only [nf, nfS, Nat.beq] <;> rfl) | rfl) rfl (by first | (simp only [nf, nfS, Nat.beq] <;> rfl) | rfl) rfl rfl rfl (by first | (simp only [nf, nfS, Nat.beq] <;> rfl) | rfl) ?_
        refine AOps.nil ?_
        refine AWP.anyThen 18 (by kernel_rfl) (by kernel_rfl) rfl (by kernel_rfl) (by kernel_rfl) ?_
        refine Walk.still (rs := [0]) (by rfl) (by first | (simp only [nf, nfS, Nat.beq] <;> rfl) | rfl) (fun base => by
            refine n_move rfl (by first | (simp only [nf, nfS, Nat.beq] <;> rfl) | rfl) ?_
            exact AOps.nil ⟨rfl, rfl, rfl⟩) ?_
        refine Walk.still (rs := [0]) (by rfl) (by first | (simp only [nf, nfS, Nat.beq] <;> rfl) | rfl) (fun base => by
            refine n_move rfl (by first | (simp only [nf, nfS, Nat.beq] <;> rfl) | rfl) ?_
            exact AOps.nil ⟨rfl, rfl, rfl⟩) ?_
        refine Walk.still (rs := [49]) (by rfl) (by first | (simp only [nf, nfS, Nat.beq] <;> rfl) | rfl) (fun base => by
            refine n_nilCheck rfl (by first | (simp only [nf, nfS, Nat.beq] <;> rfl) | rfl) rfl ?_
            exact AOps.nil ⟨rfl, rfl, rfl⟩) ?_
        refine Walk.still (rs := [50]) (by rfl) (by first | (simp only [nf, nfS, Nat.beq] <;> rfl) | rfl) (fun base => by
            refine n_fieldAddr rfl fd217_2 ti3 rfl (by first | (simp only [nf, nfS, Nat.beq] <;> rfl) | rfl) rfl (by first | (simp only [nf, nfS, Nat.beq] <;> rfl) | rfl) ?_
            exact AOps.nil ⟨rfl, rfl, rfl⟩) ?_
        refine Walk.still (rs := [51]) (by rfl) (by first | (simp only [nf, nfS, Nat.beq] <;> rfl) | rfl) (fun base => by
            refine n_load rfl ti3 (by first | (simp only [nf, nfS, Nat.beq] <;> rfl) | rfl) (by first | (simp only [nf, nfS, Nat.beq] <;> rfl) | rfl) rfl (by first | (simp only [nf, nfS, Nat.beq] <;> rfl) | rfl) ?_
            exact AOps.nil ⟨rfl, rfl, rfl⟩) ?_
        refine Walk.still (rs := [0]) (by rfl) (by first | (simp only [nf, nfS, Nat.beq] <;> rfl) | rfl) (fun base => by
            refine n_move rfl (by first | (simp only [nf, nfS, Nat.beq] <;> rfl) | rfl) ?_
            exact AOps.nil ⟨rfl, rfl, rfl⟩) ?_
        refine Walk.still (rs := [53]) (by rfl) (by first | (simp only [nf, nfS, Nat.beq] <;> rfl) | rfl) (fun base => by
            refine n_nilCheck rfl (by first | (simp only [nf, nfS, Nat.beq] <;> rfl) | rfl) rfl ?_
            exact AOps.nil ⟨rfl, rfl, rfl⟩) ?_
        refine Walk.still (rs := [54]) (by rfl) (by first | (simp only [nf, nfS, Nat.beq] <;> rfl) | rfl) (fun base => by
            refine n_fieldAddr rfl fd217_5 ti3 rfl (by first | (simp only [nf, nfS, Nat.beq] <;> rfl) | rfl) rfl (by first | (simp only [nf, nfS, Nat.beq] <;> rfl) | rfl) ?_
            exact AOps.nil ⟨rfl, rfl, rfl⟩) ?_
        refine Walk.still (rs := [55]) (by rfl) (by first | (simp only [nf, nfS, Nat.beq] <;> rfl) | rfl) (fun base => by
            refine n_load rfl ti3 (by first | (simp only [nf, nfS, Nat.beq] <;> rfl) | rfl) (by first | (simp only [nf, nfS, Nat.beq] <;> rfl) | rfl) rfl (by first | (simp only [nf, nfS, Nat.beq] <;> rfl) | rfl) ?_
            exact AOps.nil ⟨rfl, rfl, rfl⟩) ?_
        refine Walk.still (rs := [0]) (by rfl) (by first | (simp only [nf, nfS, Nat.beq] <;> rfl) | rfl) (fun base => by
            refine n_move rfl (by first | (simp only [nf, nfS, Nat.beq] <;> rfl) | rfl) ?_
            exact AOps.nil ⟨rfl, rfl, rfl⟩) ?_
        refine Walk.still (rs := [57]) (by rfl) (by first | (simp only [nf, nfS, Nat.beq] <;> rfl) | rfl) (fun base => by
            refine n_nilCheck rfl (by first | (simp only [nf, nfS, Nat.beq] <;> rfl) | rfl) rfl ?_
            exact AOps.nil ⟨rfl, rfl, rfl⟩) ?_
        refine Walk.still (rs := [58]) (by rfl) (by first | (simp only [nf, nfS, Nat.beq] <;> rfl) | rfl) (fun base => by
            refine n_fieldAddr rfl fd217_3 ti2 rfl (by first | (simp only [nf, nfS, Nat.beq] <;> rfl) | rfl) rfl (by first | (simp only [nf, nfS, Nat.beq] <;> rfl) | rfl) ?_
            exact AOps.nil ⟨rfl, rfl, rfl⟩) ?_
        refine Walk.still (rs := [59]) (by rfl) (by first | (simp only [nf, nfS, Nat.beq] <;> rfl) | rfl) (fun base => by
            refine n_load rfl ti2 (by first | (simp only [nf, nfS, Nat.beq] <;> rfl) | rfl) (by first | (simp only [nf, nfS, Nat.beq] <;> rfl) | rfl) rfl (by first | (simp only [nf, nfS, Nat.beq] <;> rfl) | rfl) ?_
            exact AOps.nil ⟨rfl, rfl, rfl⟩) ?_
        refine Walk.still (rs := [0]) (by rfl) (by first | (simp only [nf, nfS, Nat.beq] <;> rfl) | rfl) (fun base => by
            refine n_move rfl (by first | (simp only [nf, nfS, Nat.beq] <;> rfl) | rfl) ?_
            exact AOps.nil ⟨rfl, rfl, rfl⟩) ?_
        refine Walk.still (rs := [61]) (by rfl) (by first | (simp only [nf, nfS, Nat.beq] <;> rfl) | rfl) (fun base => by
            refine n_nilCheck rfl (by first | (simp only [nf, nfS, Nat.beq] <;> rfl) | rfl) rfl ?_
            exact AOps.nil ⟨rfl, rfl, rfl⟩) ?_
        refine Walk.still (rs := [62]) (by rfl) (by first | (simp only [nf, nfS, Nat.beq] <;> rfl) | rfl) (fun base => by
            refine n_fieldAddr rfl fd217_2 ti3 rfl (by first | (simp only [nf, nfS, Nat.beq] <;> rfl) | rfl) rfl (by first | (simp only [nf, nfS, Nat.beq] <;> rfl) | rfl) ?_
            exact AOps.nil ⟨rfl, rfl, rfl⟩) ?_
        refine Walk.still (rs := [63]) (by rfl) (by first | (simp only [nf, nfS, Nat.beq] <;> rfl) | rfl) (fun base => by
            refine n_load rfl ti3 (by first | (simp only [nf, nfS, Nat.beq] <;> rfl) | rfl) (by first | (simp only [nf, nfS, Nat.beq] <;> rfl) | rfl) rfl (by first | (simp only [nf, nfS, Nat.beq] <;> rfl) | rfl) ?_
            exact AOps.nil ⟨rfl, rfl, rfl⟩) ?_
        refine Walk.still (rs := [56, 60, 64]) (by rfl) (by first | (simp only [nf, nfS, Nat.beq] <;> rfl) | rfl) (fun base => by
            refine n_build rfl si224 (Eq.trans (by simp only [nl] <;> rfl) (by first | (simp only [nf, nfS, Nat.beq] <;> rfl) | rfl)) (Eq.trans (by simp only [nl] <;> rfl) (by first | (simp only [nf, nfS, Nat.beq] <;> rfl) | rfl)) rfl ?_
            exact AOps.nil ⟨rfl, rfl, rfl⟩) ?_
        refine Walk.done ?_
        refine op_callK (dst := some 66) rfl cf244 rfl (Eq.trans (by simp only [nl] <;> rfl) (by first | (simp only [nf, nfS, Nat.beq] <;> rfl) | rfl)) (put1 (x := ⟨nx + 1, ep, reg true⟩) (hs.app.cap true) (by have := hln true; omega) (hg true) (htl true) hA1 (fun S2 j hk2 => ?_))
        refine AOps.nil ?_
        refine finK_normal .nil (by first | (simp only [nf, nfS, Nat.beq] <;> rfl) | rfl) ?_
        first
        | exact hK { putW ⟨L, T, true, ep, jo, nx⟩ true ⟨nx + 1, ep, reg true⟩ with nx := nx + 1 } (at2 f true none) (at2 C true (.own (j + 1))) _ (hs.app.put true hA2 (by omega) hk2)
        | exact hK { putW ⟨L, T, true, ep, b157, nx⟩ false x with nx := nx } (at2 f false none) (at2 C false (.own (j + 1))) _ (hs.app.put (n := nx) false hM2 (by omega) hk2)
        | exact hK (joinW ⟨L, T, true, ep, jo, nx⟩ n) f (at2 C false .full) _ (hs.app.join hcI)
        | exact hK _ f C _ (hs.app.take c)
        | exact hK ⟨L, T, true, ep, jo, nx⟩ f C _ hs.app.more
        | exact hK ⟨L, T, true, ep, b157, nx⟩ f C _ hs.app.more
      · try simp only [nh] at hc3
        refine AWP.skip ?_
        refine finK_normal .nil (by first | (simp only [nf, nfS, Nat.beq] <;> rfl) | rfl) ?_
        first
        | exact hK { putW ⟨L, T, true, ep, jo, nx⟩ true ⟨nx + 1, ep, reg true⟩ with nx := nx + 1 } (at2 f true none) (at2 C true (.own (j + 1))) _ (hs.app.put true hA2 (by omega) hk2)
        | exact hK { putW ⟨L, T, true, ep, b157, nx⟩ false x with nx := nx } (at2 f false none) (at2 C false (.own (j + 1))) _ (hs.app.put (n := nx) false hM2 (by omega) hk2)
        | exact hK (joinW ⟨L, T, true, ep, jo, nx⟩ n) f (at2 C false .full) _ (hs.app.join hcI)
        | exact hK _ f C _ (hs.app.take c)
        | exact hK ⟨L, T, true, ep, jo, nx⟩ f C _ hs.app.more
        | exact hK ⟨L, T, true, ep, b157, nx⟩ f C _ hs.app.more
    · try simp only [nh] at hc2
      refine AWP.seq ?_
      refine AWP.region ?_
      refine n_ibin rfl (by first | (simp only [nf, nfS, Nat.beq] <;> rfl) | rfl) (by first | (simp only [nf, nfS, Nat.beq] <;> rfl) | rfl) rfl ?_
      refine n_assign rfl (by first | (simp only [nf, nfS, Nat.beq] <;> rfl) | rfl) ?_
      refine AOps.nil ?_
      refine AWP.cond (by first | (simp only [nf, nfS, Nat.beq] <;> rfl) | rfl) (fun hc4 => ?_) (fun hc4 => ?_)
      · try simp only [nh] at hc4
        refine AWP.seq ?_
        refine AWP.anyStill (by kernel_rfl) (by kernel_rfl) ?_
        refine Walk.still (rs := [0]) (by rfl) (by first | (simp only [nf, nfS, Nat.beq] <;> rfl) | rfl) (fun base => by
            refine n_move rfl (by first | (simp only [nf, nfS, Nat.beq] <;> rfl) | rfl) ?_
            exact AOps.nil ⟨rfl, rfl, rfl⟩) ?_
        refine Walk.still (rs := [69]) (by rfl) (by first | (simp only [nf, nfS, Nat.beq] <;> rfl) | rfl) (fun base => by
            refine n_nilCheck rfl (by first | (simp only [nf, nfS, Nat.beq] <;> rfl) | rfl) rfl ?_
            exact AOps.nil ⟨rfl, rfl, rfl⟩) ?_
        refine Walk.still (rs := [70]) (by rfl) (by first | (simp only [nf, nfS, Nat.beq] <;> rfl) | rfl) (fun base => by
            refine n_fieldAddr rfl fd217_1 ti213 rfl (by first | (simp only [nf, nfS, Nat.beq] <;> rfl) | rfl) rfl (by first | (simp only [nf, nfS, Nat.beq] <;> rfl) | rfl) ?_
            exact AOps.nil ⟨rfl, rfl, rfl⟩) ?_
        refine Walk.still (rs := [71]) (by rfl) (by first | (simp only [nf, nfS, Nat.beq] <;> rfl) | rfl) (fun base => by
            refine n_arrAddr (q := 2) rfl Try.underlying213 ti188 (by first | (simp only [nf, nfS, Nat.beq] <;> rfl) | rfl) (by first | (simp only [nf, nfS, Nat.beq] <;> rfl) | rfl) (by decide) (by decide) rfl ?_
            exact AOps.nil ⟨rfl, rfl, rfl⟩) ?_
        refine Walk.still (rs := [72]) (by rfl) (by first | (simp only [nf, nfS, Nat.beq] <;> rfl) | rfl) (fun base => by
            refine n_load rfl ti188 (by first | (simp only [nf, nfS, Nat.beq] <;> rfl) | rfl) (by first | (simp only [nf, nfS, Nat.beq] <;> rfl) | rfl) rfl (by first | (simp only [nf, nfS, Nat.beq] <;> rfl) | rfl) ?_
            exact AOps.nil ⟨rfl, rfl, rfl⟩) ?_
        refine Walk.still (rs := [0]) (by rfl) (by first | (simp only [nf, nfS, Nat.beq] <;> rfl) | rfl) (fun base => by
            refine n_move rfl (by first | (simp only [nf, nfS, Nat.beq] <;> rfl) | rfl) ?_
            exact AOps.nil ⟨rfl, rfl, rfl⟩) ?_
        refine Walk.still (rs := [74]) (by rfl) (by first | (simp only [nf, nfS, Nat.beq] <;> rfl) | rfl) (fun base => by
            refine n_nilCheck rfl (by first | (simp only [nf, nfS, Nat.beq] <;> rfl) | rfl) rfl ?_
            exact AOps.nil ⟨rfl, rfl, rfl⟩) ?_
        refine Walk.still (rs := [75]) (by rfl) (by first | (simp only [nf, nfS, Nat.beq] <;> rfl) | rfl) (fun base => by
            refine n_fieldAddr rfl fd217_1 ti213 rfl (by first | (simp only [nf, nfS, Nat.beq] <;> rfl) | rfl) rfl (by first | (simp only [nf, nfS, Nat.beq] <;> rfl) | rfl) ?_
            exact AOps.nil ⟨rfl, rfl, rfl⟩) ?_
        refine Walk.still (rs := [76]) (by rfl) (by first | (simp only [nf, nfS, Nat.beq] <;> rfl) | rfl) (fun base => by
            refine n_arrAddr (q := 4) rfl Try.underlying213 ti188 (by first | (simp only [nf, nfS, Nat.beq] <;> rfl) | rfl) (by first | (simp only [nf, nfS, Nat.beq] <;> rfl) | rfl) (by decide) (by decide) rfl ?_
            exact AOps.nil ⟨rfl, rfl, rfl⟩) ?_
        refine Walk.still (rs := [77]) (by rfl) (by first | (simp only [nf, nfS, Nat.beq] <;> rfl) | rfl) (fun base => by
            refine n_load rfl ti188 (by first | (simp only [nf, nfS, Nat.beq] <;> rfl) | rfl) (by first | (simp only [nf, nfS, Nat.beq] <;> rfl) | rfl) rfl (by first | (simp only [nf, nfS, Nat.beq] <;> rfl) | rfl) ?_
            exact AOps.nil ⟨rfl, rfl, rfl⟩) ?_
        refine Walk.still (rs := [73, 78]) (by rfl) (by first | (simp only [nf, nfS, Nat.beq] <;> rfl) | rfl) (fun base => by
            refine n_call0B rfl cf160 rfl (Eq.trans (by simp only [nl] <;> rfl) (by first | (simp only [nf, nfS, Nat.beq] <;> rfl) | rfl)) (by repeat (first | exact .nil | refine .cons ?_ ?_ | exact ren_ints | exact .lf (.val _) | exact .lf (lf_ints (.inl rfl)) | exact .bp ⟨rfl, rfl⟩ | exact .bp (.inl ⟨rfl, rfl⟩) | exact .bp (.inr ⟨rfl, rfl⟩) | exact ren_nil0 | exact .lf (lf_fnrp (lf_cons (.val _) lf_nil)) | exact .lf (.rp (lf_cons (.val _) lf_nil)) | exact .bs ⟨rfl, rfl⟩ | exact .lf (D.flat_lf rfl) | exact ren_map (f := spz) (fun _ => rfl) | exact .lf (lf_tz _) | exact ren_tz | exact .lf (.fn (fun d h => by cases h) (fun d h => by cases h)) | exact .lf (lf_fnrp (lf_rp1 (f := spz) (fun _ => rfl))) | exact .ro (by intro x hx; simp only [List.mem_cons, List.not_mem_nil, or_false] at hx; rcases hx with rfl | rfl <;> exact flats_lf rfl))) (hcm) (by first | exact .val _ | exact lf_ints (.inl rfl) | exact lf_ints (.inr rfl) | exact .any | exact lf_nil0 | exact lf_fnrp (lf_cons (.val _) lf_nil) | exact D.flat_lf rfl | exact lf_map (f := spz) (fun _ => rfl) (.inl rfl) | exact lf_tz _ | exact .tup (lf_cons (lf_tz _) (lf_cons (.val _) lf_nil)) | exact lf_fnrp (lf_rp1 (f := spz) (fun _ => rfl))) ?_
            exact AOps.nil ⟨rfl, rfl, rfl⟩) ?_
        refine Walk.still (rs := [79]) (by rfl) (by first | (simp only [nf, nfS, Nat.beq] <;> rfl) | rfl) (fun base => by
            refine n_assign rfl (by first | (simp only [nf, nfS, Nat.beq] <;> rfl) | rfl) ?_
            exact AOps.nil ⟨rfl, rfl, rfl⟩) ?_
        refine Walk.done ?_
        refine AWP.seq ?_
        refine AWP.region ?_
        refine n_move rfl (by first | (simp only [nf, nfS, Nat.beq] <;> rfl) | rfl) ?_
        refine n_move rfl (by first | (simp only [nf, nfS, Nat.beq] <;> rfl) | rfl) ?_
        refine n_nilCheck rfl (by first | (simp only [nf, nfS, Nat.beq] <;> rfl) | rfl) rfl ?_
        refine n_fieldAddr rfl fd217_1 ti213 rfl (by first | (simp only [nf, nfS, Nat.beq] <;> rfl) | rfl) rfl (by first | (simp only [nf, nfS, Nat.beq] <;> rfl) | rfl) ?_
        refine n_arrAddr (q := 2) rfl Try.underlying213 ti188 (by first | (simp only [nf, nfS, Nat.beq] <;> rfl) | rfl) (by first | (simp only [nf, nfS, Nat.beq] <;> rfl) | rfl) (by decide) (by decide) rfl ?_
        refine n_load rfl ti188 (by first | (simp only [nf, nfS, Nat.beq] <;> rfl) | rfl) (by first | (simp only [nf, nfS, Nat.beq] <;> rfl) | rfl) rfl (by first | (simp only [nf, nfS, Nat.beq] <;> rfl) | rfl) ?_
        refine n_move rfl (by first | (simp only [nf, nfS, Nat.beq] <;> rfl) | rfl) ?_
        refine n_call0B rfl cf245 rfl (Eq.trans (by simp only [nl] <;> rfl) (by first | (simp only [nf, nfS, Nat.beq] <;> rfl) | rfl)) (by repeat (first | exact .nil | refine .cons ?_ ?_ | exact ren_ints | exact .lf (.val _) | exact .lf (lf_ints (.inl rfl)) | exact .bp ⟨rfl, rfl⟩ | exact .bp (.inl ⟨rfl, rfl⟩) | exact .bp (.inr ⟨rfl, rfl⟩) | exact ren_nil0 | exact .lf (lf_fnrp (lf_cons (.val _) lf_nil)) | exact .lf (.rp (lf_cons (.val _) lf_nil)) | exact .bs ⟨rfl, rfl⟩ | exact .lf (D.flat_lf rfl) | exact ren_map (f := spz) (fun _ => rfl) | exact .lf (lf_tz _) | exact ren_tz | exact .lf (.fn (fun d h => by cases h) (fun d h => by cases h)) | exact .lf (lf_fnrp (lf_rp1 (f := spz) (fun _ => rfl))) | exact .ro (by intro x hx; simp only [List.mem_cons, List.not_mem_nil, or_false] at hx; rcases hx with rfl | rfl <;> exact flats_lf rfl))) (hct) (by first | exact .val _ | exact lf_ints (.inl rfl) | exact lf_ints (.inr rfl) | exact .any | exact lf_nil0 | exact lf_fnrp (lf_cons (.val _) lf_nil) | exact D.flat_lf rfl | exact lf_map (f := spz) (fun _ => rfl) (.inl rfl) | exact lf_tz _ | exact .tup (lf_cons (lf_tz _) (lf_cons (.val _) lf_nil)) | exact lf_fnrp (lf_rp1 (f := spz) (fun _ => rfl))) ?_
        refine n_move rfl (by first | (simp only [nf, nfS, Nat.beq] <;> rfl) | rfl) ?_
        refine n_extract rfl (by first | (simp only [nf, nfS, Nat.beq] <;> rfl) | rfl) rfl ?_
        refine n_extract rfl (by first | (simp only [nf, nfS, Nat.beq] <;> rfl) | rfl) rfl ?_
        refine n_alloc rfl zi188 rfl (by first | (simp only [nf, nfS, Nat.beq] <;> rfl) | rfl) (by first | (simp only [nf, nfS, Nat.beq] <;> rfl) | rfl) ?_
        refine n_store ti188 (by first | (simp only [nf, nfS, Nat.beq] <;> rfl) | rfl) (by first | (simp only [nf, nfS, Nat.beq] <;> rfl) | rfl) (by first | (simp only [nf, nfS, Nat.beq] <;> rfl) | rfl) rfl (by first | (simp only [nf, nfS, Nat.beq] <;> rfl) | rfl) rfl rfl rfl (by first | (simp only [nf, nfS, Nat.beq] <;> rfl) | rfl) ?_
        refine n_assign rfl (by first | (simp only [nf, nfS, Nat.beq] <;> rfl) | rfl) ?_
        refine AOps.nil ?_
        refine AWP.seq ?_
        refine AWP.region ?_
        refine n_move rfl (by first | (simp only [nf, nfS, Nat.beq] <;> rfl) | rfl) ?_
        refine n_move rfl (by first | (simp only [nf, nfS, Nat.beq] <;> rfl) | rfl) ?_
        refine n_nilCheck rfl (by first | (simp only [nf, nfS, Nat.beq] <;> rfl) | rfl) rfl ?_
        refine n_fieldAddr rfl fd217_6 ti4 rfl (by first | (simp only [nf, nfS, Nat.beq] <;> rfl) | rfl) rfl (by first | (simp only [nf, nfS, Nat.beq] <;> rfl) | rfl) ?_
        refine n_load rfl ti4 (by first | (simp only [nf, nfS, Nat.beq] <;> rfl) | rfl) (by first | (simp only [nf, nfS, Nat.beq] <;> rfl) | rfl) rfl (by first | (simp only [nf, nfS, Nat.beq] <;> rfl) | rfl) ?_
        refine n_move rfl (by first | (simp only [nf, nfS, Nat.beq] <;> rfl) | rfl) ?_
        refine n_guard_yes rfl rfl rfl (by first | (simp only [nf, nfS, Nat.beq] <;> rfl) | rfl) rfl ?_
        refine n_move rfl (by first | (simp only [nf, nfS, Nat.beq] <;> rfl) | rfl) ?_
        refine n_guard_yes rfl rfl rfl (by first | (simp only [nf, nfS, Nat.beq] <;> rfl) | rfl) rfl ?_
        refine n_ibin rfl (by first | (simp only [nf, nfS, Nat.beq] <;> rfl) | rfl) (by first | (simp only [nf, nfS, Nat.beq] <;> rfl) | rfl) rfl ?_
        refine n_pick rfl (by first | (simp only [nf, nfS, Nat.beq] <;> rfl) | rfl) (by first | (simp only [nf, nfS, Nat.beq] <;> rfl) | rfl) ?_
        refine n_move rfl (by first | (simp only [nf, nfS, Nat.beq] <;> rfl) | rfl) ?_
        refine n_guard_yes rfl rfl rfl (by first | (simp only [nf, nfS, Nat.beq] <;> rfl) | rfl) rfl ?_
        refine n_move rfl (by first | (simp only [nf, nfS, Nat.beq] <;> rfl) | rfl) ?_
        refine n_guard_yes rfl rfl rfl (by first | (simp only [nf, nfS, Nat.beq] <;> rfl) | rfl) rfl ?_
        refine n_ibin (v := .bool true) rfl (by first | (simp only [nf, nfS, Nat.beq] <;> rfl) | rfl) (by first | (simp only [nf, nfS, Nat.beq] <;> rfl) | rfl) (by show some (Value.bool (decide _)) = _; rw [decide_eq_true (by omega)]) ?_
        refine n_pick rfl (by first | (simp only [nf, nfS, Nat.beq] <;> rfl) | rfl) (by first | (simp only [nf, nfS, Nat.beq] <;> rfl) | rfl) ?_
        refine n_move rfl (by first | (simp only [nf, nfS, Nat.beq] <;> rfl) | rfl) ?_
        refine n_guard_yes rfl rfl rfl (by first | (simp only [nf, nfS, Nat.beq] <;> rfl) | rfl) rfl ?_
        refine n_move rfl (by first | (simp only [nf, nfS, Nat.beq] <;> rfl) | rfl) ?_
        refine n_guard_yes rfl rfl rfl (by first | (simp only [nf, nfS, Nat.beq] <;> rfl) | rfl) rfl ?_
        refine n_move rfl (by first | (simp only [nf, nfS, Nat.beq] <;> rfl) | rfl) ?_
        refine n_guard_yes rfl rfl rfl (by first | (simp only [nf, nfS, Nat.beq] <;> rfl) | rfl) rfl ?_
        refine n_move rfl (by first | (simp only [nf, nfS, Nat.beq] <;> rfl) | rfl) ?_
        refine n_guard_yes rfl rfl rfl (by first | (simp only [nf, nfS, Nat.beq] <;> rfl) | rfl) rfl ?_
        refine n_nilCheck rfl (by first | (simp only [nf, nfS, Nat.beq] <;> rfl) | rfl) rfl ?_
        refine n_guard_yes rfl rfl rfl (by first | (simp only [nf, nfS, Nat.beq] <;> rfl) | rfl) rfl ?_
        refine n_fieldAddr rfl fd217_0 ti215 rfl (by first | (simp only [nf, nfS, Nat.beq] <;> rfl) | rfl) rfl (by first | (simp only [nf, nfS, Nat.beq] <;> rfl) | rfl) ?_
        refine n_guard_yes rfl rfl rfl (by first | (simp only [nf, nfS, Nat.beq] <;> rfl) | rfl) rfl ?_
        refine n_arrAddr (q := 0) rfl Try.underlying215 ti214 (by first | (simp only [nf, nfS, Nat.beq] <;> rfl) | rfl) (by first | (simp only [nf, nfS, Nat.beq] <;> rfl) | rfl) (by decide) (by decide) rfl ?_
        refine n_guard_yes rfl rfl rfl (by first | (simp only [nf, nfS, Nat.beq] <;> rfl) | rfl) rfl ?_
        refine n_load rfl ti214 (by first | (simp only [nf, nfS, Nat.beq] <;> rfl) | rfl) (by first | (simp only [nf, nfS, Nat.beq] <;> rfl) | rfl) rfl (by first | (simp only [nf, nfS, Nat.beq] <;> rfl) | rfl) ?_
        refine n_guard_yes rfl rfl rfl (by first | (simp only [nf, nfS, Nat.beq] <;> rfl) | rfl) rfl ?_
        refine n_len rfl Try.underlying214 (by first | (simp only [nf, nfS, Nat.beq] <;> rfl) | rfl) (n := ((L false).length : Int)) (by rw [List.length_map]) ?_
        refine n_guard_yes rfl rfl rfl (by first | (simp only [nf, nfS, Nat.beq] <;> rfl) | rfl) rfl ?_
        refine n_ibin (v := .bool true) rfl (by first | (simp only [nf, nfS, Nat.beq] <;> rfl) | rfl) (by first | (simp only [nf, nfS, Nat.beq] <;> rfl) | rfl) (by show some (Value.bool (decide _)) = _; rw [decide_eq_true (by omega)]) ?_
        refine n_pick rfl (by first | (simp only [nf, nfS, Nat.beq] <;> rfl) | rfl) (by first | (simp only [nf, nfS, Nat.beq] <;> rfl) | rfl) ?_
        refine n_nilCheck rfl (by first | (simp only [nf, nfS, Nat.beq] <;> rfl) | rfl) rfl ?_
        refine n_fieldAddr rfl fd217_6 ti4 rfl (by first | (simp only [nf, nfS, Nat.beq] <;> rfl) | rfl) rfl (by first | (simp only [nf, nfS, Nat.beq] <;> rfl) | rfl) ?_
        refine n_store ti4 (by first | (simp only [nf, nfS, Nat.beq] <;> rfl) | rfl) (by first | (simp only [nf, nfS, Nat.beq] <;> rfl) | rfl) (by first | (simp only [nf, nfS, Nat.beq] <;> rfl) | rfl) rfl (by first | (simp only [nf, nfS, Nat.beq] <;> rfl) | rfl) rfl rfl rfl (by first | (simp only [nf, nfS, Nat.beq] <;> rfl) | rfl) ?_
        refine AOps.nil ?_
        refine AWP.seq ?_
        refine AWP.region ?_
        refine n_move rfl (by first | (simp only [nf, nfS, Nat.beq] <;> rfl) | rfl) ?_
        refine n_nilCheck rfl (by first | (simp only [nf, nfS, Nat.beq] <;> rfl) | rfl) rfl ?_
        refine n_fieldAddr rfl fd217_6 ti4 rfl (by first | (simp only [nf, nfS, Nat.beq] <;> rfl) | rfl) rfl (by first | (simp only [nf, nfS, Nat.beq] <;> rfl) | rfl) ?_
        refine n_load rfl ti4 (by first | (simp only [nf, nfS, Nat.beq] <;> rfl) | rfl) (by first | (simp only [nf, nfS, Nat.beq] <;> rfl) | rfl) rfl (by first | (simp only [nf, nfS, Nat.beq] <;> rfl) | rfl) ?_
        refine AOps.nil ?_
        refine AWP.cond (by first | (simp only [nf, nfS, Nat.beq] <;> rfl) | rfl) (fun hc5 => ?_) (fun hc5 => ?_)
        · try simp only [nh] at hc5
          refine AWP.seq ?_
          refine AWP.any1 6 (Ob.box (wzz (.sl (f false) ((L false).map etz) (C false)) (.sl (f true) ((L true).map etz) (C true)) ((T false).cutT (n : Int)) (T true) 1 ep jo nx) :: (S1 ++ [Ob.box (mz m), Ob.box [.sl none (((T false).cutT (n : Int)).l.map spz) .ro, vi ((T false).cutT (n : Int)).n]])) (by kernel_rfl) (by kernel_rfl) (by kernel_rfl) ?_
          refine Walk.ahead [6] (by rfl) (by kernel_rfl) (by rfl) (rs := [0]) (by rfl) (by first | (simp only [nf, nfS, Nat.beq] <;> rfl) | rfl) (fun base => by
              refine n_move rfl (by first | (simp only [nf, nfS, Nat.beq] <;> rfl) | rfl) ?_
              exact AOps.nil ⟨rfl, rfl, rfl⟩) ?_
          refine Walk.ahead [6] (by rfl) (by kernel_rfl) (by rfl) (rs := [4]) (by rfl) (by first | (simp only [nf, nfS, Nat.beq] <;> rfl) | rfl) (fun base => by
              refine n_move rfl (by first | (simp only [nf, nfS, Nat.beq] <;> rfl) | rfl) ?_
              exact AOps.nil ⟨rfl, rfl, rfl⟩) ?_
          refine Walk.ahead [6] (by rfl) (by kernel_rfl) (by rfl) (rs := [6]) (by rfl) (by first | (simp only [nf, nfS, Nat.beq] <;> rfl) | rfl) (fun base => by
              refine n_load rfl ti188 (by first | (simp only [nf, nfS, Nat.beq] <;> rfl) | rfl) (by first | (simp only [nf, nfS, Nat.beq] <;> rfl) | rfl) rfl (by first | (simp only [nf, nfS, Nat.beq] <;> rfl) | rfl) ?_
              exact AOps.nil ⟨rfl, rfl, rfl⟩) ?_
          refine Walk.ahead [4, 5, 6] (by rfl) (by kernel_rfl) (by rfl) (rs := [121]) (by rfl) (by first | (simp only [nf, nfS, Nat.beq] <;> rfl) | rfl) (fun base => by
              refine n_nilCheck rfl (by first | (simp only [nf, nfS, Nat.beq] <;> rfl) | rfl) rfl ?_
              exact AOps.nil ⟨rfl, rfl, rfl⟩) ?_
          refine Walk.ahead [5, 6] (by rfl) (by kernel_rfl) (by rfl) (rs := [124]) (by rfl) (by first | (simp only [nf, nfS, Nat.beq] <;> rfl) | rfl) (fun base => by
              refine n_fieldAddr rfl fd217_1 ti213 rfl (by first | (simp only [nf, nfS, Nat.beq] <;> rfl) | rfl) rfl (by first | (simp only [nf, nfS, Nat.beq] <;> rfl) | rfl) ?_
              exact AOps.nil ⟨rfl, rfl, rfl⟩) ?_
          refine Walk.ahead [6] (by rfl) (by kernel_rfl) (by rfl) (rs := [125, 122]) (by rfl) (by first | (simp only [nf, nfS, Nat.beq] <;> rfl) | rfl) (fun base => by
              refine n_arrAddr (q := 2) rfl Try.underlying213 ti188 (by first | (simp only [nf, nfS, Nat.beq] <;> rfl) | rfl) (by first | (simp only [nf, nfS, Nat.beq] <;> rfl) | rfl) (by decide) (by decide) rfl ?_
              exact AOps.nil ⟨rfl, rfl, rfl⟩) ?_
          refine Walk.writes (d := .any) (by rfl) (rs := [126, 123]) (by rfl) (by first | (simp only [nf, nfS, Nat.beq] <;> rfl) | rfl) (fun base => by
              refine n_store ti188 (by first | (simp only [nf, nfS, Nat.beq] <;> rfl) | rfl) (by first | (simp only [nf, nfS, Nat.beq] <;> rfl) | rfl) (by first | (simp only [nf, nfS, Nat.beq] <;> rfl) | rfl) rfl (by first | (simp only [nf, nfS, Nat.beq] <;> rfl) | rfl) rfl rfl rfl (by first | (simp only [nf, nfS, Nat.beq] <;> rfl) | rfl) ?_
              exact AOps.nil ⟨rfl, rfl, rfl⟩) ?_
          refine Walk.done ?_
          refine AWP.seq ?_
          refine AWP.any1 14 (Ob.box (wzz (.sl (f false) (((L false).take n).map etz) .full) (.sl (f true) ((L true).map etz) (C true)) ((T false).cutT (n : Int)) (T true) 1 ep jo nx) :: (S1 ++ [Ob.box (mz m), Ob.box [.sl none (((T false).cutT (n : Int)).l.map spz) .ro, vi ((T false).cutT (n : Int)).n]])) (by kernel_rfl) (by kernel_rfl) (by kernel_rfl) ?_
          refine Walk.ahead [14] (by rfl) (by kernel_rfl) (by rfl) (rs := [0]) (by rfl) (by first | (simp only [nf, nfS, Nat.beq] <;> rfl) | rfl) (fun base => by
              refine n_move rfl (by first | (simp only [nf, nfS, Nat.beq] <;> rfl) | rfl) ?_
              exact AOps.nil ⟨rfl, rfl, rfl⟩) ?_
          refine Walk.ahead [14] (by rfl) (by kernel_rfl) (by rfl) (rs := [4]) (by rfl) (by first | (simp only [nf, nfS, Nat.beq] <;> rfl) | rfl) (fun base => by
              refine n_move rfl (by first | (simp only [nf, nfS, Nat.beq] <;> rfl) | rfl) ?_
              exact AOps.nil ⟨rfl, rfl, rfl⟩) ?_
          refine Walk.ahead [14] (by rfl) (by kernel_rfl) (by rfl) (rs := [0]) (by rfl) (by first | (simp only [nf, nfS, Nat.beq] <;> rfl) | rfl) (fun base => by
              refine n_move rfl (by first | (simp only [nf, nfS, Nat.beq] <;> rfl) | rfl) ?_
              exact AOps.nil ⟨rfl, rfl, rfl⟩) ?_
          refine Walk.ahead [14] (by rfl) (by kernel_rfl) (by rfl) (rs := [4]) (by rfl) (by first | (simp only [nf, nfS, Nat.beq] <;> rfl) | rfl) (fun base => by
              refine n_move rfl (by first | (simp only [nf, nfS, Nat.beq] <;> rfl) | rfl) ?_
              exact AOps.nil ⟨rfl, rfl, rfl⟩) ?_
          refine Walk.ahead [14] (by rfl) (by kernel_rfl) (by rfl) (rs := [129]) (by rfl) (by first | (simp only [nf, nfS, Nat.beq] <;> rfl) | rfl) (fun base => by
              refine n_nilCheck rfl (by first | (simp only [nf, nfS, Nat.beq] <;> rfl) | rfl) rfl ?_
              exact AOps.nil ⟨rfl, rfl, rfl⟩) ?_
          refine Walk.ahead [14] (by rfl) (by kernel_rfl) (by rfl) (rs := [131]) (by rfl) (by first | (simp only [nf, nfS, Nat.beq] <;> rfl) | rfl) (fun base => by
              refine n_fieldAddr rfl fd217_0 ti215 rfl (by first | (simp only [nf, nfS, Nat.beq] <;> rfl) | rfl) rfl (by first | (simp only [nf, nfS, Nat.beq] <;> rfl) | rfl) ?_
              exact AOps.nil ⟨rfl, rfl, rfl⟩) ?_
          refine Walk.ahead [14] (by rfl) (by kernel_rfl) (by rfl) (rs := [132, 130]) (by rfl) (by first | (simp only [nf, nfS, Nat.beq] <;> rfl) | rfl) (fun base => by
              refine n_arrAddr (q := 0) rfl Try.underlying215 ti214 (by first | (simp only [nf, nfS, Nat.beq] <;> rfl) | rfl) (by first | (simp only [nf, nfS, Nat.beq] <;> rfl) | rfl) (by decide) (by decide) rfl ?_
              exact AOps.nil ⟨rfl, rfl, rfl⟩) ?_
          refine Walk.ahead [14] (by rfl) (by kernel_rfl) (by rfl) (rs := [133]) (by rfl) (by first | (simp only [nf, nfS, Nat.beq] <;> rfl) | rfl) (fun base => by
              refine n_load rfl ti214 (by first | (simp only [nf, nfS, Nat.beq] <;> rfl) | rfl) (by first | (simp only [nf, nfS, Nat.beq] <;> rfl) | rfl) rfl (by first | (simp only [nf, nfS, Nat.beq] <;> rfl) | rfl) ?_
              exact AOps.nil ⟨rfl, rfl, rfl⟩) ?_
          refine Walk.ahead [14] (by rfl) (by kernel_rfl) (by rfl) (rs := [5]) (by rfl) (by first | (simp only [nf, nfS, Nat.beq] <;> rfl) | rfl) (fun base => by
              refine n_move rfl (by first | (simp only [nf, nfS, Nat.beq] <;> rfl) | rfl) ?_
              exact AOps.nil ⟨rfl, rfl, rfl⟩) ?_
          refine Walk.ahead [14] (by rfl) (by kernel_rfl) (by rfl) (rs := [5]) (by rfl) (by first | (simp only [nf, nfS, Nat.beq] <;> rfl) | rfl) (fun base => by
              refine n_move rfl (by first | (simp only [nf, nfS, Nat.beq] <;> rfl) | rfl) ?_
              exact AOps.nil ⟨rfl, rfl, rfl⟩) ?_
          refine Walk.ahead [14] (by rfl) (by kernel_rfl) (by rfl) (rs := [134, 135, 136]) (by rfl) (by first | (simp only [nf, nfS, Nat.beq] <;> rfl) | rfl) (fun base => by
              refine n_slice3 (k := 0) (h := n) (ys := ((L false).take n).map etz) rfl Try.underlying214 ti224 (by first | (simp only [nf, nfS, Nat.beq] <;> rfl) | rfl) (SB.some (by first | (simp only [nf, nfS, Nat.beq] <;> rfl) | rfl) (by first | rfl | omega)) (SB.some (by first | (simp only [nf, nfS, Nat.beq] <;> rfl) | rfl) (by first | rfl | omega)) SB.none (by omega) (by rw [List.length_map]; omega) et4 (by rw [List.drop_zero, List.map_take]) ?_
              exact AOps.nil ⟨rfl, rfl, rfl⟩) ?_
          refine Walk.ahead [12, 13, 14] (by rfl) (by kernel_rfl) (by rfl) (rs := [127]) (by rfl) (by first | (simp only [nf, nfS, Nat.beq] <;> rfl) | rfl) (fun base => by
              refine n_nilCheck rfl (by first | (simp only [nf, nfS, Nat.beq] <;> rfl) | rfl) rfl ?_
              exact AOps.nil ⟨rfl, rfl, rfl⟩) ?_
          refine Walk.ahead [13, 14] (by rfl) (by kernel_rfl) (by rfl) (rs := [138]) (by rfl) (by first | (simp only [nf, nfS, Nat.beq] <;> rfl) | rfl) (fun base => by
              refine n_fieldAddr rfl fd217_0 ti215 rfl (by first | (simp only [nf, nfS, Nat.beq] <;> rfl) | rfl) rfl (by first | (simp only [nf, nfS, Nat.beq] <;> rfl) | rfl) ?_
              exact AOps.nil ⟨rfl, rfl, rfl⟩) ?_
          refine Walk.ahead [14] (by rfl) (by kernel_rfl) (by rfl) (rs := [139, 128]) (by rfl) (by first | (simp only [nf, nfS, Nat.beq] <;> rfl) | rfl) (fun base => by
              refine n_arrAddr (q := 0) rfl Try.underlying215 ti214 (by first | (simp only [nf, nfS, Nat.beq] <;> rfl) | rfl) (by first | (simp only [nf, nfS, Nat.beq] <;> rfl) | rfl) (by decide) (by decide) rfl ?_
              exact AOps.nil ⟨rfl, rfl, rfl⟩) ?_
          refine Walk.writes (d := .any) (by rfl) (rs := [140, 137]) (by rfl) (by first | (simp only [nf, nfS, Nat.beq] <;> rfl) | rfl) (fun base => by
              refine n_store ti214 (by first | (simp only [nf, nfS, Nat.beq] <;> rfl) | rfl) (by first | (simp only [nf, nfS, Nat.beq] <;> rfl) | rfl) (by first | (simp only [nf, nfS, Nat.beq] <;> rfl) | rfl) rfl (by first | (simp only [nf, nfS, Nat.beq] <;> rfl) | rfl) rfl rfl rfl (by first | (simp only [nf, nfS, Nat.beq] <;> rfl) | rfl) ?_
              exact AOps.nil ⟨rfl, rfl, rfl⟩) ?_
          refine Walk.done ?_
          refine AWP.region ?_
          refine n_move rfl (by first | (simp only [nf, nfS, Nat.beq] <;> rfl) | rfl) ?_
          refine n_nilCheck rfl (by first | (simp only [nf, nfS, Nat.beq] <;> rfl) | rfl) rfl ?_
          refine n_fieldAddr rfl fd217_4 ti4 rfl (by first | (simp only [nf, nfS, Nat.beq] <;> rfl) | rfl) rfl (by first | (simp only [nf, nfS, Nat.beq] <;> rfl) | rfl) ?_
          refine n_store ti4 (by first | (simp only [nf, nfS, Nat.beq] <;> rfl) | rfl) (by first | (simp only [nf, nfS, Nat.beq] <;> rfl) | rfl) (by first | (simp only [nf, nfS, Nat.beq] <;> rfl) | rfl) rfl (by first | (simp only [nf, nfS, Nat.beq] <;> rfl) | rfl) rfl rfl rfl (by first | (simp only [nf, nfS, Nat.beq] <;> rfl) | rfl) ?_
          refine AOps.nil ?_
          refine finK_normal .nil (by first | (simp only [nf, nfS, Nat.beq] <;> rfl) | rfl) ?_
          first
          | exact hK { putW ⟨L, T, true, ep, jo, nx⟩ true ⟨nx + 1, ep, reg true⟩ with nx := nx + 1 } (at2 f true none) (at2 C true (.own (j + 1))) _ (hs.app.put true hA2 (by omega) hk2)
          | exact hK { putW ⟨L, T, true, ep, b157, nx⟩ false x with nx := nx } (at2 f false none) (at2 C false (.own (j + 1))) _ (hs.app.put (n := nx) false hM2 (by omega) hk2)
          | exact hK (joinW ⟨L, T, true, ep, jo, nx⟩ n) f (at2 C false .full) _ (hs.app.join hcI)
          | exact hK _ f C _ (hs.app.take c)
          | exact hK ⟨L, T, true, ep, jo, nx⟩ f C _ hs.app.more
          | exact hK ⟨L, T, true, ep, b157, nx⟩ f C _ hs.app.more
        · try simp only [nh] at hc5
          refine AWP.skip ?_
          refine finK_normal .nil (by first | (simp only [nf, nfS, Nat.beq] <;> rfl) | rfl) ?_
          first
          | exact hK { putW ⟨L, T, true, ep, jo, nx⟩ true ⟨nx + 1, ep, reg true⟩ with nx := nx + 1 } (at2 f true none) (at2 C true (.own (j + 1))) _ (hs.app.put true hA2 (by omega) hk2)
          | exact hK { putW ⟨L, T, true, ep, b157, nx⟩ false x with nx := nx } (at2 f false none) (at2 C false (.own (j + 1))) _ (hs.app.put (n := nx) false hM2 (by omega) hk2)
          | exact hK (joinW ⟨L, T, true, ep, jo, nx⟩ n) f (at2 C false .full) _ (hs.app.join hcI)
          | exact hK _ f C _ (hs.app.take c)
          | exact hK ⟨L, T, true, ep, jo, nx⟩ f C _ hs.app.more
          | exact hK ⟨L, T, true, ep, b157, nx⟩ f C _ hs.app.more
      · try simp only [nh] at hc4
        refine AWP.seq ?_
        refine AWP.region ?_
        refine n_ibin rfl (by first | (simp only [nf, nfS, Nat.beq] <;> rfl) | rfl) (by first | (simp only [nf, nfS, Nat.beq] <;> rfl) | rfl) rfl ?_
        refine n_assign rfl (by first | (simp only [nf, nfS, Nat.beq] <;> rfl) | rfl) ?_
        refine AOps.nil ?_
        refine AWP.cond (by first | (simp only [nf, nfS, Nat.beq] <;> rfl) | rfl) (fun hc6 => ?_) (fun hc6 => ?_)
        · try simp only [nh] at hc6
          refine AWP.seq ?_
          refine AWP.region ?_
          refine n_move rfl (by first | (simp only [nf, nfS, Nat.beq] <;> rfl) | rfl) ?_
          refine n_move rfl (by first | (simp only [nf, nfS, Nat.beq] <;> rfl) | rfl) ?_
          refine n_nilCheck rfl (by first | (simp only [nf, nfS, Nat.beq] <;> rfl) | rfl) rfl ?_
          refine n_fieldAddr rfl fd217_0 ti215 rfl (by first | (simp only [nf, nfS, Nat.beq] <;> rfl) | rfl) rfl (by first | (simp only [nf, nfS, Nat.beq] <;> rfl) | rfl) ?_
          refine n_arrAddr (q := 0) rfl Try.underlying215 ti214 (by first | (simp only [nf, nfS, Nat.beq] <;> rfl) | rfl) (by first | (simp only [nf, nfS, Nat.beq] <;> rfl) | rfl) (by decide) (by decide) rfl ?_
          refine n_load rfl ti214 (by first | (simp only [nf, nfS, Nat.beq] <;> rfl) | rfl) (by first | (simp only [nf, nfS, Nat.beq] <;> rfl) | rfl) rfl (by first | (simp only [nf, nfS, Nat.beq] <;> rfl) | rfl) ?_
          refine n_len rfl Try.underlying214 (by first | (simp only [nf, nfS, Nat.beq] <;> rfl) | rfl) (n := ((L false).length : Int)) (by rw [List.length_map]) ?_
          refine n_assign rfl (by first | (simp only [nf, nfS, Nat.beq] <;> rfl) | rfl) ?_
          refine AOps.nil ?_
          refine AWP.seq ?_
          refine AWP.anyStill (by kernel_rfl) (by kernel_rfl) ?_
          refine Walk.still (rs := [0]) (by rfl) (by first | (simp only [nf, nfS, Nat.beq] <;> rfl) | rfl) (fun base => by
              refine n_move rfl (by first | (simp only [nf, nfS, Nat.beq] <;> rfl) | rfl) ?_
              exact AOps.nil ⟨rfl, rfl, rfl⟩) ?_
          refine Walk.still (rs := [153]) (by rfl) (by first | (simp only [nf, nfS, Nat.beq] <;> rfl) | rfl) (fun base => by
              refine n_nilCheck rfl (by first | (simp only [nf, nfS, Nat.beq] <;> rfl) | rfl) rfl ?_
              exact AOps.nil ⟨rfl, rfl, rfl⟩) ?_
          refine Walk.still (rs := [154]) (by rfl) (by first | (simp only [nf, nfS, Nat.beq] <;> rfl) | rfl) (fun base => by
              refine n_fieldAddr rfl fd217_4 ti4 rfl (by first | (simp only [nf, nfS, Nat.beq] <;> rfl) | rfl) rfl (by first | (simp only [nf, nfS, Nat.beq] <;> rfl) | rfl) ?_
              exact AOps.nil ⟨rfl, rfl, rfl⟩) ?_
          refine Walk.still (rs := [155]) (by rfl) (by first | (simp only [nf, nfS, Nat.beq] <;> rfl) | rfl) (fun base => by
              refine n_load rfl ti4 (by first | (simp only [nf, nfS, Nat.beq] <;> rfl) | rfl) (by first | (simp only [nf, nfS, Nat.beq] <;> rfl) | rfl) rfl (by first | (simp only [nf, nfS, Nat.beq] <;> rfl) | rfl) ?_
              exact AOps.nil ⟨rfl, rfl, rfl⟩) ?_
          refine Walk.still (rs := [156]) (by rfl) (by first | (simp only [nf, nfS, Nat.beq] <;> rfl) | rfl) (fun base => by
              refine n_move rfl (by first | (simp only [nf, nfS, Nat.beq] <;> rfl) | rfl) ?_
              exact AOps.nil ⟨rfl, rfl, rfl⟩) ?_
          refine Walk.name (u := 157) (fun z => .val (.bool z)) (by first | (simp only [nf, nfS, Nat.beq] <;> rfl) | rfl) (fun b157 hb157 => ?_)
          refine Walk.still (rs := [8, 157]) (by rfl) (by first | (simp only [nf, nfS, Nat.beq] <;> rfl) | rfl) (fun base => by
              refine n_soft (u := 157) (E := .val (.bool b157)) (b157) rfl rfl rfl (by first | (simp only [nf, nfS, Nat.beq] <;> rfl) | rfl) (by cases b157 <;> first | (intro _; rfl) | (intro h; exact absurd h (by decide))) (by cases b157 <;> first | (intro h; exact absurd h (by decide)) | (intro _; exact ⟨_, rfl, by first | (intro h; cases h; done) | decide | simp⟩)) (fun h => by
                  cases b157 with
                  | false => exact absurd h (by first | decide | simp)
                  | true =>
                    refine n_move rfl (by first | (simp only [nf, nfS, Nat.beq] <;> rfl) | rfl) ?_
                    exact AOps.nil ⟨rfl, rfl, rfl⟩) (AOps.nil ⟨rfl, rfl, rfl⟩)) ?_
          refine Walk.still (rs := [0, 157]) (by rfl) (by first | (simp only [nf, nfS, Nat.beq] <;> rfl) | rfl) (fun base => by
              refine n_soft (u := 157) (E := .val (.bool b157)) (b157) rfl rfl rfl (by first | (simp only [nf, nfS, Nat.beq] <;> rfl) | rfl) (by cases b157 <;> first | (intro _; rfl) | (intro h; exact absurd h (by decide))) (by cases b157 <;> first | (intro h; exact absurd h (by decide)) | (intro _; exact ⟨_, rfl, by first | (intro h; cases h; done) | decide | simp⟩)) (fun h => by
                  cases b157 with
                  | false => exact absurd h (by first | decide | simp)
                  | true =>
                    refine n_move rfl (by first | (simp only [nf, nfS, Nat.beq] <;> rfl) | rfl) ?_
                    exact AOps.nil ⟨rfl, rfl, rfl⟩) (AOps.nil ⟨rfl, rfl, rfl⟩)) ?_
          refine Walk.still (rs := [0, 157]) (by rfl) (by first | (simp only [nf, nfS, Nat.beq] <;> rfl) | rfl) (fun base => by
              refine n_soft (u := 157) (E := .val (.bool b157)) (b157) rfl rfl rfl (by first | (simp only [nf, nfS, Nat.beq] <;> rfl) | rfl) (by cases b157 <;> first | (intro _; rfl) | (intro h; exact absurd h (by decide))) (by cases b157 <;> first | (intro h; exact absurd h (by decide)) | (intro _; exact ⟨_, rfl, by first | (intro h; cases h; done) | decide | simp⟩)) (fun h => by
                  cases b157 with
                  | false => exact absurd h (by first | decide | simp)
                  | true =>
                    refine n_move rfl (by first | (simp only [nf, nfS, Nat.beq] <;> rfl) | rfl) ?_
                    exact AOps.nil ⟨rfl, rfl, rfl⟩) (AOps.nil ⟨rfl, rfl, rfl⟩)) ?_
          refine Walk.still (rs := [160, 157]) (by rfl) (by first | (simp only [nf, nfS, Nat.beq] <;> rfl) | rfl) (fun base => by
              refine n_soft (u := 157) (E := .val (.bool b157)) (b157) rfl rfl rfl (by first | (simp only [nf, nfS, Nat.beq] <;> rfl) | rfl) (by cases b157 <;> first | (intro _; rfl) | (intro h; exact absurd h (by decide))) (by cases b157 <;> first | (intro h; exact absurd h (by decide)) | (intro _; exact ⟨_, rfl, by first | (intro h; cases h; done) | decide | simp⟩)) (fun h => by
                  cases b157 with
                  | false => exact absurd h (by first | decide | simp)
                  | true =>
                    refine n_nilCheck rfl (by first | (simp only [nf, nfS, Nat.beq] <;> rfl) | rfl) rfl ?_
                    exact AOps.nil ⟨rfl, rfl, rfl⟩) (AOps.nil ⟨rfl, rfl, rfl⟩)) ?_
          refine Walk.still (rs := [161, 157]) (by rfl) (by first | (simp only [nf, nfS, Nat.beq] <;> rfl) | rfl) (fun base => by
              refine n_soft (u := 157) (E := .val (.bool b157)) (b157) rfl rfl rfl (by first | (simp only [nf, nfS, Nat.beq] <;> rfl) | rfl) (by cases b157 <;> first | (intro _; rfl) | (intro h; exact absurd h (by decide))) (by cases b157 <;> first | (intro h; exact absurd h (by decide)) | (intro _; exact ⟨_, rfl, by first | (intro h; cases h; done) | decide | simp⟩)) (fun h => by
                  cases b157 with
                  | false => exact absurd h (by first | decide | simp)
                  | true =>
                    refine n_fieldAddr rfl fd217_2 ti3 rfl (by first | (simp only [nf, nfS, Nat.beq] <;> rfl) | rfl) rfl (by first | (simp only [nf, nfS, Nat.beq] <;> rfl) | rfl) ?_
                    exact AOps.nil ⟨rfl, rfl, rfl⟩) (AOps.nil ⟨rfl, rfl, rfl⟩)) ?_
          refine Walk.still (rs := [162, 157]) (by rfl) (by first | (simp only [nf, nfS, Nat.beq] <;> rfl) | rfl) (fun base => by
              refine n_soft (u := 157) (E := .val (.bool b157)) (b157) rfl rfl rfl (by first | (simp only [nf, nfS, Nat.beq] <;> rfl) | rfl) (by cases b157 <;> first | (intro _; rfl) | (intro h; exact absurd h (by decide))) (by cases b157 <;> first | (intro h; exact absurd h (by decide)) | (intro _; exact ⟨_, rfl, by first | (intro h; cases h; done) | decide | simp⟩)) (fun h => by
                  cases b157 with
                  | false => exact absurd h (by first | decide | simp)
                  | true =>
                    refine n_load rfl ti3 (by first | (simp only [nf, nfS, Nat.beq] <;> rfl) | rfl) (by first | (simp only [nf, nfS, Nat.beq] <;> rfl) | rfl) rfl (by first | (simp only [nf, nfS, Nat.beq] <;> rfl) | rfl) ?_
                    exact AOps.nil ⟨rfl, rfl, rfl⟩) (AOps.nil ⟨rfl, rfl, rfl⟩)) ?_
          refine Walk.still (rs := [159, 157]) (by rfl) (by first | (simp only [nf, nfS, Nat.beq] <;> rfl) | rfl) (fun base => by
              refine n_soft (u := 157) (E := .val (.bool b157)) (b157) rfl rfl rfl (by first | (simp only [nf, nfS, Nat.beq] <;> rfl) | rfl) (by cases b157 <;> first | (intro _; rfl) | (intro h; exact absurd h (by decide))) (by cases b157 <;> first | (intro h; exact absurd h (by decide)) | (intro _; exact ⟨_, rfl, by first | (intro h; cases h; done) | decide | simp⟩)) (fun h => by
                  cases b157 with
                  | false => exact absurd h (by first | decide | simp)
                  | true =>
                    refine n_nilCheck rfl (by first | (simp only [nf, nfS, Nat.beq] <;> rfl) | rfl) rfl ?_
                    exact AOps.nil ⟨rfl, rfl, rfl⟩) (AOps.nil ⟨rfl, rfl, rfl⟩)) ?_
          refine Walk.still (rs := [164, 157]) (by rfl) (by first | (simp only [nf, nfS, Nat.beq] <;> rfl) | rfl) (fun base => by
              refine n_soft (u := 157) (E := .val (.bool b157)) (b157) rfl rfl rfl (by first | (simp only [nf, nfS, Nat.beq] <;> rfl) | rfl) (by cases b157 <;> first | (intro _; rfl) | (intro h; exact absurd h (by decide))) (by cases b157 <;> first | (intro h; exact absurd h (by decide)) | (intro _; exact ⟨_, rfl, by first | (intro h; cases h; done) | decide | simp⟩)) (fun h => by
                  cases b157 with
                  | false => exact absurd h (by first | decide | simp)
                  | true =>
                    refine n_fieldAddr rfl fd217_0 ti215 rfl (by first | (simp only [nf, nfS, Nat.beq] <;> rfl) | rfl) rfl (by first | (simp only [nf, nfS, Nat.beq] <;> rfl) | rfl) ?_
                    exact AOps.nil ⟨rfl, rfl, rfl⟩) (AOps.nil ⟨rfl, rfl, rfl⟩)) ?_
          refine Walk.still (rs := [165, 163, 157]) (by rfl) (by first | (simp only [nf, nfS, Nat.beq] <;> rfl) | rfl) (fun base => by
              refine n_soft (u := 157) (E := .val (.bool b157)) (b157) rfl rfl rfl (by first | (simp only [nf, nfS, Nat.beq] <;> rfl) | rfl) (by cases b157 <;> first | (intro _; rfl) | (intro h; exact absurd h (by decide))) (by cases b157 <;> first | (intro h; exact absurd h (by decide)) | (intro _; exact ⟨_, rfl, by first | (intro h; cases h; done) | decide | simp⟩)) (fun h => by
                  cases b157 with
                  | false => exact absurd h (by first | decide | simp)
                  | true =>
                    refine n_arrAddr (q := 1) rfl Try.underlying215 ti214 (by first | (simp only [nf, nfS, Nat.beq] <;> rfl) | rfl) (by first | (simp only [nf, nfS, Nat.beq] <;> rfl) | rfl) (by decide) (by decide) rfl ?_
                    exact AOps.nil ⟨rfl, rfl, rfl⟩) (AOps.nil ⟨rfl, rfl, rfl⟩)) ?_
          refine Walk.still (rs := [166, 157]) (by rfl) (by first | (simp only [nf, nfS, Nat.beq] <;> rfl) | rfl) (fun base => by
              refine n_soft (u := 157) (E := .val (.bool b157)) (b157) rfl rfl rfl (by first | (simp only [nf, nfS, Nat.beq] <;> rfl) | rfl) (by cases b157 <;> first | (intro _; rfl) | (intro h; exact absurd h (by decide))) (by cases b157 <;> first | (intro h; exact absurd h (by decide)) | (intro _; exact ⟨_, rfl, by first | (intro h; cases h; done) | decide | simp⟩)) (fun h => by
                  cases b157 with
                  | false => exact absurd h (by first | decide | simp)
                  | true =>
                    refine n_load rfl ti214 (by first | (simp only [nf, nfS, Nat.beq] <;> rfl) | rfl) (by first | (simp only [nf, nfS, Nat.beq] <;> rfl) | rfl) rfl (by first | (simp only [nf, nfS, Nat.beq] <;> rfl) | rfl) ?_
                    exact AOps.nil ⟨rfl, rfl, rfl⟩) (AOps.nil ⟨rfl, rfl, rfl⟩)) ?_
          refine Walk.still (rs := [167, 157]) (by rfl) (by first | (simp only [nf, nfS, Nat.beq] <;> rfl) | rfl) (fun base => by
              refine n_soft (u := 157) (E := .val (.bool b157)) (b157) rfl rfl rfl (by first | (simp only [nf, nfS, Nat.beq] <;> rfl) | rfl) (by cases b157 <;> first | (intro _; rfl) | (intro h; exact absurd h (by decide))) (by cases b157 <;> first | (intro h; exact absurd h (by decide)) | (intro _; exact ⟨_, rfl, by first | (intro h; cases h; done) | decide | simp⟩)) (fun h => by
                  cases b157 with
                  | false => exact absurd h (by first | decide | simp)
                  | true =>
                    refine n_len rfl Try.underlying214 (by first | (simp only [nf, nfS, Nat.beq] <;> rfl) | rfl) (n := ((L true).length : Int)) (by rw [List.length_map]) ?_
                    exact AOps.nil ⟨rfl, rfl, rfl⟩) (AOps.nil ⟨rfl, rfl, rfl⟩)) ?_
          refine Walk.still (rs := [158, 168, 157]) (by rfl) (by first | (simp only [nf, nfS, Nat.beq] <;> rfl) | rfl) (fun base => by
              refine n_soft (u := 157) (E := .val (.bool b157)) (b157) rfl rfl rfl (by first | (simp only [nf, nfS, Nat.beq] <;> rfl) | rfl) (by cases b157 <;> first | (intro _; rfl) | (intro h; exact absurd h (by decide))) (by cases b157 <;> first | (intro h; exact absurd h (by decide)) | (intro _; exact ⟨_, rfl, by first | (intro h; cases h; done) | decide | simp⟩)) (fun h => by
                  cases b157 with
                  | false => exact absurd h (by first | decide | simp)
                  | true =>
                    refine n_ibin rfl (by first | (simp only [nf, nfS, Nat.beq] <;> rfl) | rfl) (by first | (simp only [nf, nfS, Nat.beq] <;> rfl) | rfl) rfl ?_
                    exact AOps.nil ⟨rfl, rfl, rfl⟩) (AOps.nil ⟨rfl, rfl, rfl⟩)) ?_
          refine Walk.still (rs := [157, 169]) (by rfl) (by first | (simp only [nf, nfS, Nat.beq] <;> rfl) | rfl) (fun base => by
              refine n_pick_and rfl (by first | (simp only [nf, nfS, Nat.beq] <;> rfl) | rfl) (fun h => by cases b157 with | false => exact absurd h (by decide) | true => exact (by first | (simp only [nf, nfS, Nat.beq] <;> rfl) | rfl)) ?_
              exact AOps.nil ⟨rfl, rfl, rfl⟩) ?_
          subst hb157
          refine Walk.done ?_
          refine AWP.cond (by first | (simp only [nf, nfS, Nat.beq] <;> rfl) | rfl) (fun hc7 => ?_) (fun hc7 => ?_)
          · try simp only [nh] at hc7
            have hjl : b157 = true ∧ (L false).length < (L true).length := by { simp at hc7; exact hc7 }
            obtain ⟨hj, hlt2⟩ := hjl
            obtain ⟨x, hx⟩ : ∃ x, (L true)[(L false).length]? = some x := ⟨_, List.getElem?_eq_getElem hlt2⟩
            have hxo := map_at etz hx
            obtain ⟨hM1, hM2⟩ := hI.mirror (w := ⟨L, T, true, ep, b157, nx⟩) (by omega) hj hx
            dsimp only at hM1 hM2
            refine AWP.anyThen 14 (by kernel_rfl) (by kernel_rfl) rfl (by kernel_rfl) (by kernel_rfl) ?_
            refine Walk.still (rs := [0]) (by rfl) (by first | (simp only [nf, nfS, Nat.beq] <;> rfl) | rfl) (fun base => by
                refine n_move rfl (by first | (simp only [nf, nfS, Nat.beq] <;> rfl) | rfl) ?_
                exact AOps.nil ⟨rfl, rfl, rfl⟩) ?_
            refine Walk.still (rs := [4]) (by rfl) (by first | (simp only [nf, nfS, Nat.beq] <;> rfl) | rfl) (fun base => by
                refine n_move rfl (by first | (simp only [nf, nfS, Nat.beq] <;> rfl) | rfl) ?_
                exact AOps.nil ⟨rfl, rfl, rfl⟩) ?_
            refine Walk.still (rs := [0]) (by rfl) (by first | (simp only [nf, nfS, Nat.beq] <;> rfl) | rfl) (fun base => by
                refine n_move rfl (by first | (simp only [nf, nfS, Nat.beq] <;> rfl) | rfl) ?_
                exact AOps.nil ⟨rfl, rfl, rfl⟩) ?_
            refine Walk.still (rs := [0]) (by rfl) (by first | (simp only [nf, nfS, Nat.beq] <;> rfl) | rfl) (fun base => by
                refine n_move rfl (by first | (simp only [nf, nfS, Nat.beq] <;> rfl) | rfl) ?_
                exact AOps.nil ⟨rfl, rfl, rfl⟩) ?_
            refine Walk.still (rs := [174]) (by rfl) (by first | (simp only [nf, nfS, Nat.beq] <;> rfl) | rfl) (fun base => by
                refine n_nilCheck rfl (by first | (simp only [nf, nfS, Nat.beq] <;> rfl) | rfl) rfl ?_
                exact AOps.nil ⟨rfl, rfl, rfl⟩) ?_
            refine Walk.still (rs := [175]) (by rfl) (by first | (simp only [nf, nfS, Nat.beq] <;> rfl) | rfl) (fun base => by
                refine n_fieldAddr rfl fd217_2 ti3 rfl (by first | (simp only [nf, nfS, Nat.beq] <;> rfl) | rfl) rfl (by first | (simp only [nf, nfS, Nat.beq] <;> rfl) | rfl) ?_
                exact AOps.nil ⟨rfl, rfl, rfl⟩) ?_
            refine Walk.still (rs := [176]) (by rfl) (by first | (simp only [nf, nfS, Nat.beq] <;> rfl) | rfl) (fun base => by
                refine n_load rfl ti3 (by first | (simp only [nf, nfS, Nat.beq] <;> rfl) | rfl) (by first | (simp only [nf, nfS, Nat.beq] <;> rfl) | rfl) rfl (by first | (simp only [nf, nfS, Nat.beq] <;> rfl) | rfl) ?_
                exact AOps.nil ⟨rfl, rfl, rfl⟩) ?_
            refine Walk.still (rs := [173]) (by rfl) (by first | (simp only [nf, nfS, Nat.beq] <;> rfl) | rfl) (fun base => by
                refine n_nilCheck rfl (by first | (simp only [nf, nfS, Nat.beq] <;> rfl) | rfl) rfl ?_
                exact AOps.nil ⟨rfl, rfl, rfl⟩) ?_
            refine Walk.still (rs := [178]) (by rfl) (by first | (simp only [nf, nfS, Nat.beq] <;> rfl) | rfl) (fun base => by
                refine n_fieldAddr rfl fd217_0 ti215 rfl (by first | (simp only [nf, nfS, Nat.beq] <;> rfl) | rfl) rfl (by first | (simp only [nf, nfS, Nat.beq] <;> rfl) | rfl) ?_
                exact AOps.nil ⟨rfl, rfl, rfl⟩) ?_
            refine Walk.still (rs := [179, 177]) (by rfl) (by first | (simp only [nf, nfS, Nat.beq] <;> rfl) | rfl) (fun base => by
                refine n_arrAddr (q := 1) rfl Try.underlying215 ti214 (by first | (simp only [nf, nfS, Nat.beq] <;> rfl) | rfl) (by first | (simp only [nf, nfS, Nat.beq] <;> rfl) | rfl) (by decide) (by decide) rfl ?_
                exact AOps.nil ⟨rfl, rfl, rfl⟩) ?_
            refine Walk.still (rs := [180]) (by rfl) (by first | (simp only [nf, nfS, Nat.beq] <;> rfl) | rfl) (fun base => by
                refine n_load rfl ti214 (by first | (simp only [nf, nfS, Nat.beq] <;> rfl) | rfl) (by first | (simp only [nf, nfS, Nat.beq] <;> rfl) | rfl) rfl (by first | (simp only [nf, nfS, Nat.beq] <;> rfl) | rfl) ?_
                exact AOps.nil ⟨rfl, rfl, rfl⟩) ?_
            refine Walk.still (rs := [8]) (by rfl) (by first | (simp only [nf, nfS, Nat.beq] <;> rfl) | rfl) (fun base => by
                refine n_move rfl (by first | (simp only [nf, nfS, Nat.beq] <;> rfl) | rfl) ?_
                exact AOps.nil ⟨rfl, rfl, rfl⟩) ?_
            refine Walk.still (rs := [181, 182]) (by rfl) (by first | (simp only [nf, nfS, Nat.beq] <;> rfl) | rfl) (fun base => by
                refine n_indexAddr rfl Try.underlying214 ti224 rfl (by first | (simp only [nf, nfS, Nat.beq] <;> rfl) | rfl) (by first | (simp only [nf, nfS, Nat.beq] <;> rfl) | rfl) (by omega) (by exact hxo) rfl ?_
                exact AOps.nil ⟨rfl, rfl, rfl⟩) ?_
            refine Walk.still (rs := [183]) (by rfl) (by first | (simp only [nf, nfS, Nat.beq] <;> rfl) | rfl) (fun base => by
                refine n_load rfl ti224 (by first | (simp only [nf, nfS, Nat.beq] <;> rfl) | rfl) (by first | (simp only [nf, nfS, Nat.beq] <;> rfl) | rfl) rfl (by first | (simp only [nf, nfS, Nat.beq] <;> rfl) | rfl) ?_
                exact AOps.nil ⟨rfl, rfl, rfl⟩) ?_
            refine Walk.done ?_
            refine op_callK (dst := some 185) rfl cf244 rfl (Eq.trans (by simp only [nl] <;> rfl) (by first | (simp only [nf, nfS, Nat.beq] <;> rfl) | rfl)) (put0 (x := x) (hs.app.cap false) (by have := hln false; omega) (hg false) (htl false) hM1 (fun S2 j hk2 => ?_))
            refine AOps.nil ?_
            refine finK_normal .nil (by first | (simp only [nf, nfS, Nat.beq] <;> rfl) | rfl) ?_
            first
            | exact hK { putW ⟨L, T, true, ep, jo, nx⟩ true ⟨nx + 1, ep, reg true⟩ with nx := nx + 1 } (at2 f true none) (at2 C true (.own (j + 1))) _ (hs.app.put true hA2 (by omega) hk2)
            | exact hK { putW ⟨L, T, true, ep, b157, nx⟩ false x with nx := nx } (at2 f false none) (at2 C false (.own (j + 1))) _ (hs.app.put (n := nx) false hM2 (by omega) hk2)
            | exact hK (joinW ⟨L, T, true, ep, jo, nx⟩ n) f (at2 C false .full) _ (hs.app.join hcI)
            | exact hK _ f C _ (hs.app.take c)
            | exact hK ⟨L, T, true, ep, jo, nx⟩ f C _ hs.app.more
            | exact hK ⟨L, T, true, ep, b157, nx⟩ f C _ hs.app.more
          · try simp only [nh] at hc7
            refine AWP.skip ?_
            refine finK_normal .nil (by first | (simp only [nf, nfS, Nat.beq] <;> rfl) | rfl) ?_
            first
            | exact hK { putW ⟨L, T, true, ep, jo, nx⟩ true ⟨nx + 1, ep, reg true⟩ with nx := nx + 1 } (at2 f true none) (at2 C true (.own (j + 1))) _ (hs.app.put true hA2 (by omega) hk2)
            | exact hK { putW ⟨L, T, true, ep, b157, nx⟩ false x with nx := nx } (at2 f false none) (at2 C false (.own (j + 1))) _ (hs.app.put (n := nx) false hM2 (by omega) hk2)
            | exact hK (joinW ⟨L, T, true, ep, jo, nx⟩ n) f (at2 C false .full) _ (hs.app.join hcI)
            | exact hK _ f C _ (hs.app.take c)
            | exact hK ⟨L, T, true, ep, jo, nx⟩ f C _ hs.app.more
            | exact hK ⟨L, T, true, ep, b157, nx⟩ f C _ hs.app.more
        · try simp only [nh] at hc6
          refine AWP.skip ?_
          refine finK_normal .nil (by first | (simp only [nf, nfS, Nat.beq] <;> rfl) | rfl) ?_
          first
          | exact hK { putW ⟨L, T, true, ep, jo, nx⟩ true ⟨nx + 1, ep, reg true⟩ with nx := nx + 1 } (at2 f true none) (at2 C true (.own (j + 1))) _ (hs.app.put true hA2 (by omega) hk2)
          | exact hK { putW ⟨L, T, true, ep, b157, nx⟩ false x with nx := nx } (at2 f false none) (at2 C false (.own (j + 1))) _ (hs.app.put (n := nx) false hM2 (by omega) hk2)
          | exact hK (joinW ⟨L, T, true, ep, jo, nx⟩ n) f (at2 C false .full) _ (hs.app.join hcI)
          | exact hK _ f C _ (hs.app.take c)
          | exact hK ⟨L, T, true, ep, jo, nx⟩ f C _ hs.app.more
          | exact hK ⟨L, T, true, ep, b157, nx⟩ f C _ hs.app.more

end Go.Proofs.Ytanfmpkjcoolmaa.Mm
