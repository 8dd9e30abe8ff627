/- A variable's slice of a block that is only read from now on. -/
import Derived.Test.YtanfmpkjcoolmaaAbsZj
set_option linter.unusedVariables false
set_option linter.unusedSimpArgs false
namespace Go.Abs
variable {P : Program} {N : Nat} {Q : Exit → Tm → List Ob → Prop} {tm : Tm} {S : List Ob}
theorem AWP.freezeBx {j j' i n sz : Nat} {ds es : List D} {xs : List (List D)} {b : List D} {c : Code} {S' : List Ob} (hj' : S[j']? = some (.box es)) (hi : es[i]? = some (.bs j 0 n)) (hj : S[j]? = some (.box ds)) (hne : Nat.beq j j' = false) (hds : ds = xs.flatten ++ b) (hn : xs.length = n) (hsz : ∀ x ∈ xs, x.length = sz)
    (hone : ∀ x ∈ xs, ∀ d ∈ x, d.one = true) (hS : (S.set j .lent).set j' (.box (es.set i (.sl none xs .ro))) = S') (h : AWP P N c Q tm S') : AWP P N c Q tm S := by
  subst hS
  intro ro hro g a w st
  have hne' : j ≠ j' := by rintro rfl; rw [Nat.beq_refl] at hne; cases hne
  obtain ⟨b0, cs, T, e1, e2, e3, e4, e5, e6⟩ := st.sim.obs j _ hj
  obtain ⟨b1, cs1, T1, f1, f2, f3, f4, f5, f6⟩ := st.sim.obs j' _ hj'
  have hjl : j < S.length := (List.getElem?_eq_some_iff.1 hj).1
  have hjl' : j' < S.length := (List.getElem?_eq_some_iff.1 hj').1
  obtain ⟨g', hg'⟩ : ∃ g' : G, g' = { g with lim := fun x => if x = b0 then cs.size else g.lim x } := ⟨_, rfl⟩
  have hb : b0 < w.heap.size := (st.sim.own b0 j e2).2
  have hb01 : b1 ≠ b0 := by rintro rfl; rw [e2] at f2; cases f2; exact hne' rfl
  have hle : Le g w g' w := by
    refine ⟨fun ad v hv => ⟨hv.1, ?_, hv.2.2⟩, fun l b h => by rw [hg']; exact h, fun l n x e => ⟨n, x, by rw [hg']; exact e, .inr ⟨rfl, rfl⟩⟩⟩
    rw [hg']; simp only
    split
    · rename_i h; have := hv.2.1; rw [h, e5] at this; omega
    · exact hv.2.1
  have hlater : Later g w g' w := ⟨hle, ⟨Nat.le_refl _, rfl, rfl, rfl, fun x hx ho => ⟨rfl, by rw [hg']; simp only; rw [if_neg (by rintro rfl; rw [e2] at ho; cases ho)], by rw [hg']; exact ho⟩, fun x l hx ho => by rw [hg']; exact ho, by rw [hg']⟩⟩
  have hsl : ∀ v, Rep g w v (.bs j 0 n) → Rep g' w v (.sl none xs .ro) := by
    intro v r
    cases r with
    | bs hb' hcap =>
      rw [e1] at hb'; cases hb'
      have key : ∀ (i : Nat) (x : List D), xs[i]? = some x → ∀ (j : Nat) (d : D), x[j]? = some d → ∃ u, cs[i * sz + j]? = some u ∧ Rep g w u d := fun i x hx j d hd => by
        have h1 := flat_get hsz hx hd
        have h2 : ds[i * sz + j]? = some d := by rw [hds, List.getElem?_append_left (List.getElem?_eq_some_iff.1 h1).1]; exact h1
        have h3 : i * sz + j < cs.size := Nat.lt_of_lt_of_le (List.getElem?_eq_some_iff.1 h2).1 e4
        exact ⟨_, Array.getElem?_eq_getElem h3, e6 _ _ _ (Array.getElem?_eq_getElem h3) h2⟩
      refine .sl sz (fun i j => cs.getD (i * sz + j) undef) hn hcap (fun e => by cases e) (fun b h => by cases h) hsz (fun i x hx j d hd => ?_) (fun i x hx j d hd => ?_) trivial
      · obtain ⟨u, k1, k2⟩ := key i x hx j d hd
        have q2 : cs.getD (i * sz + j) undef = u := by rw [Array.getD_eq_getD_getElem?, k1]; rfl
        refine ⟨_, rfl, ?_, ?_, ?_⟩
        · rw [add_lit, q2, Nat.zero_add]; simp only [World.cell?, e3]; simpa using k1
        · rw [add_lit, Nat.zero_add, hg']; simp only [if_true]; exact (Array.getElem?_eq_some_iff.1 k1).1
        · rw [q2]; exact rep_one k2 (hone x (List.mem_of_getElem? hx) d (List.mem_of_getElem? hd))
      · obtain ⟨u, k1, k2⟩ := key i x hx j d hd
        have q2 : cs.getD (i * sz + j) undef = u := by rw [Array.getD_eq_getD_getElem?, k1]; rfl
        rw [q2]; exact k2.mono hle
  have hsim : Sim g' w ((S.set j .lent).set j' (.box (es.set i (.sl none xs .ro)))) := by
    refine ⟨fun l ob hl => ?_, fun l hl => by rw [hg']; exact st.sim.noEta l (by simpa using hl), fun l hl => by rw [hg']; exact st.sim.noRow l (by simpa using hl), fun x l ho => ?_, fun x hx => ?_⟩
    · by_cases e' : l = j'
      · subst e'
        rw [List.getElem?_set_self (by simpa using hjl')] at hl
        cases hl
        refine ⟨b1, cs1, T1, hle.eta _ _ f1, by rw [hg']; exact f2, f3, by simpa using f4, by rw [hg']; simp only; rw [if_neg hb01]; exact f5, fun k v d hv hd => ?_⟩
        by_cases ek : k = i
        · subst ek
          rw [List.getElem?_set_self (List.getElem?_eq_some_iff.1 hi).1] at hd
          cases hd
          exact hsl v (f6 k v _ hv hi)
        · rw [List.getElem?_set_ne (by omega)] at hd
          exact (f6 k v d hv hd).mono hle
      · rw [List.getElem?_set_ne (by omega)] at hl
        by_cases e : l = j
        · subst e
          rw [List.getElem?_set_self hjl] at hl
          cases hl; trivial
        · rw [List.getElem?_set_ne (by omega)] at hl
          refine (st.sim.obs l ob hl).keep hle (.refl w) (fun x ho => ⟨rfl, ?_, by rw [hg']; exact ho⟩) (fun n h e => by rw [hg']; exact e) (fun k1 k2 => ⟨by rw [hg']; exact k1, by rw [hg']; exact k2⟩)
          rw [hg']; simp only; rw [if_neg (by rintro rfl; rw [e2] at ho; cases ho; exact e rfl)]
    · rw [hg'] at ho
      rw [List.length_set, List.length_set]; exact st.sim.own x l ho
    · rw [hg']; simp only; rw [if_neg (by omega)]; exact st.sim.lim x hx
  have st2 : St N g' tm ((S.set j .lent).set j' (.box (es.set i (.sl none xs .ro)))) a w := by
    refine ⟨st.size, by rw [hg']; exact st.based, st.once, fun d hd => ?_, fun i => (st.slots i).mono hle, hsim⟩
    obtain ⟨b, k1, k2, k3, k4⟩ := st.defers d hd
    exact ⟨b, k1, by rw [hg']; exact k2, by rw [hg']; exact k3, k4⟩
  exact Code.wpIn_mono (fun e a' w' k => Post.later hlater k) (h ro hro _ a w st2)
end Go.Abs
