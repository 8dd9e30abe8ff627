/- Rows a variable's slices own; what is struck out of a block. -/
import Derived.Test.YtanfmpkjcoolmaaGreatSessQPlain
set_option linter.unusedVariables false
set_option linter.unusedSimpArgs false
namespace Go.Abs
section
variable {P : Program} {N : Nat} {ops : Array Oper} {l : List Oper} {Q : Exit → Tm → List Ob → Prop} {tm : Tm} {S : List Ob}
theorem AOps.rowBq {j j' i n cap sz : Nat} {ds es : List D} {xs : List (List D)} {b : List D} {S' : List Ob} (hj' : S[j']? = some (.box es)) (hi : es[i]? = some (.bq j 0 n cap)) (hj : S[j]? = some (.box ds)) (hne : Nat.beq j j' = false) (hds : ds = xs.flatten ++ b) (hn : xs.length = n) (hcap : cap * sz ≤ ds.length) (hsz : ∀ x ∈ xs, x.length = sz)
    (hone : ∀ x ∈ xs, ∀ d ∈ x, d.one = true) (hS : (S.set j (.row n sz)).set j' (.box (es.set i (.sl none xs (.own j)))) = S') (h : AOps P N ops l Q tm S') : AOps P N ops l Q tm S := by
  subst hS
  intro ro g a w st
  have hne' : j ≠ j' := by rintro rfl; rw [Nat.beq_refl] at hne; cases hne
  obtain ⟨b0, cs, T, e1, e2, e3, e4, e5, e6⟩ := st.sim.obs j _ hj
  obtain ⟨b1, cs1, T1, f1, f2, f3, f4, f5, f6⟩ := st.sim.obs j' _ hj'
  have hjl : j < S.length := (List.getElem?_eq_some_iff.1 hj).1
  have hjl' : j' < S.length := (List.getElem?_eq_some_iff.1 hj').1
  obtain ⟨hs, hhs⟩ : ∃ hs, hs = Value.slice (some ⟨b0, 0, none⟩) n cap := ⟨_, rfl⟩
  obtain ⟨g', hg'⟩ : ∃ g' : G, g' = { g with lim := fun x => if x = b0 then n * sz else g.lim x, row := upd g.row j (some (n, hs)) } := ⟨_, rfl⟩
  have hb : b0 < w.heap.size := (st.sim.own b0 j e2).2
  have hb01 : b1 ≠ b0 := by rintro rfl; rw [e2] at f2; cases f2; exact hne' rfl
  have hncap : n ≤ cap := by
    have hil : i < es.length := (List.getElem?_eq_some_iff.1 hi).1
    have hr := f6 i _ _ (Array.getElem?_eq_getElem (show i < cs1.size by omega)) hi
    generalize cs1[i]'(by omega) = v at hr
    cases hr with
    | bq _ h => exact h
  have hrow : ∀ l, l ≠ j → g'.row l = g.row l := fun l hl => by rw [hg']; simp only; rw [upd_other _ _ hl]
  have hle : Le g w g' w := by
    refine ⟨fun ad v hv => ⟨hv.1, ?_, hv.2.2⟩, fun l b h => by rw [hg']; exact h, fun l n x e => ?_⟩
    · rw [hg']; simp only
      split
      · rename_i h; have := hv.2.1; rw [h, e5.1] at this; omega
      · exact hv.2.1
    · have hl : l ≠ j := by rintro rfl; rw [e5.2] at e; cases e
      exact ⟨n, x, (hrow l hl).trans e, .inr ⟨rfl, rfl⟩⟩
  have hlater : Later g w g' w := ⟨hle, ⟨Nat.le_refl _, rfl, rfl, rfl, fun x hx ho => ⟨rfl, by rw [hg']; simp only; rw [if_neg (by rintro rfl; rw [e2] at ho; cases ho)], by rw [hg']; exact ho⟩, fun x l hx ho => by rw [hg']; exact ho, by rw [hg']⟩⟩
  have hsl : ∀ v, Rep g w v (.bq j 0 n cap) → Rep g' w v (.sl none xs (.own j)) := by
    intro v r
    cases r with
    | bq hb' hcap' =>
      rw [e1] at hb'; cases hb'
      have key : ∀ (i : Nat) (x : List D), xs[i]? = some x → ∀ (j : Nat) (d : D), x[j]? = some d → i * sz + j < n * sz ∧ ∃ u, cs[i * sz + j]? = some u ∧ Rep g w u d := fun i x hx j d hd => by
        have h1 := flat_get hsz hx hd
        have h2 : ds[i * sz + j]? = some d := by rw [hds, List.getElem?_append_left (List.getElem?_eq_some_iff.1 h1).1]; exact h1
        have h3 : i * sz + j < cs.size := Nat.lt_of_lt_of_le (List.getElem?_eq_some_iff.1 h2).1 e4
        have h4 := (List.getElem?_eq_some_iff.1 h1).1
        rw [flat_len hsz, hn] at h4
        exact ⟨h4, _, Array.getElem?_eq_getElem h3, e6 _ _ _ (Array.getElem?_eq_getElem h3) h2⟩
      refine .sl sz (fun i j => cs.getD (i * sz + j) undef) hn hcap' (fun e => by cases e) (fun b h => by cases h) hsz (fun i x hx j d hd => ?_) (fun i x hx j d hd => ?_) ⟨n, hs, by rw [hg']; simp only [upd_same], Nat.le_refl _, fun _ => hhs.symm⟩
      · obtain ⟨k0, u, k1, k2⟩ := key i x hx j d hd
        have q2 : cs.getD (i * sz + j) undef = u := by rw [Array.getD_eq_getD_getElem?, k1]; rfl
        refine ⟨_, rfl, ?_, ?_, ?_⟩
        · rw [add_lit, q2, Nat.zero_add]; simp only [World.cell?, e3]; simpa using k1
        · rw [add_lit, Nat.zero_add, hg']; simp only [if_true]; exact k0
        · rw [q2]; exact rep_one k2 (hone x (List.mem_of_getElem? hx) d (List.mem_of_getElem? hd))
      · obtain ⟨k0, u, k1, k2⟩ := key i x hx j d hd
        have q2 : cs.getD (i * sz + j) undef = u := by rw [Array.getD_eq_getD_getElem?, k1]; rfl
        rw [q2]; exact k2.mono hle
  have hsim : Sim g' w ((S.set j (.row n sz)).set j' (.box (es.set i (.sl none xs (.own j))))) := by
    refine ⟨fun l ob hl => ?_, fun l hl => by rw [hg']; exact st.sim.noEta l (by simpa using hl), fun l hl => ?_, fun x l ho => ?_, fun x hx => ?_⟩
    · by_cases e' : l = j'
      · subst e'
        rw [List.getElem?_set_self (by simpa using hjl')] at hl
        cases hl
        refine ⟨b1, cs1, T1, hle.eta _ _ f1, by rw [hg']; exact f2, f3, by simpa using f4, ⟨by rw [hg']; simp only; rw [if_neg hb01]; exact f5.1, (hrow l (fun e => hne' e.symm)).trans f5.2⟩, fun k v d hv hd => ?_⟩
        by_cases ek : k = i
        · subst ek
          rw [List.getElem?_set_self (List.getElem?_eq_some_iff.1 hi).1] at hd
          cases hd
          exact hsl v (f6 k v _ hv hi)
        · rw [List.getElem?_set_ne (by omega)] at hd
          exact (f6 k v d hv hd).mono hle
      · rw [List.getElem?_set_ne (by omega)] at hl
        by_cases e : l = j
        · subst e
          rw [List.getElem?_set_self hjl] at hl
          cases hl
          refine ⟨some ⟨b0, 0, none⟩, cap, by rw [hg']; simp only [upd_same]; rw [hhs], hncap, fun e => by (cases e), .inr ⟨b0, 0, cs, T, rfl, by rw [hg']; exact e2, e3, by omega, by rw [hg']; simp only [if_true]; omega⟩⟩
        · rw [List.getElem?_set_ne (by omega)] at hl
          refine (st.sim.obs l ob hl).keep hle (.refl w) (fun x ho => ⟨rfl, ?_, by rw [hg']; exact ho⟩) (fun n h e' => by rw [hrow l e]; exact e') (fun k2 => ⟨by rw [hrow l e]; exact k2, fun k1 => by rw [hg']; exact k1⟩)
          rw [hg']; simp only; rw [if_neg (by rintro rfl; rw [e2] at ho; cases ho; exact e rfl)]
    · rw [hrow l (by rintro rfl; simp at hl; omega)]; exact st.sim.noRow l (by simpa using hl)
    · rw [hg'] at ho
      rw [List.length_set, List.length_set]; exact st.sim.own x l ho
    · rw [hg']; simp only; rw [if_neg (by omega)]; exact st.sim.lim x hx
  have st2 : St N g' tm ((S.set j (.row n sz)).set j' (.box (es.set i (.sl none xs (.own j))))) a w := by
    refine ⟨st.size, by rw [hg']; exact st.based, st.once, fun d hd => ?_, fun i => (st.slots i).mono hle, hsim⟩
    obtain ⟨b, k1, k2, k3, k4⟩ := st.defers d hd
    exact ⟨b, k1, by rw [hg']; exact k2, by rw [hg']; exact k3, k4⟩
  exact wpList_mono (fun e a' w2 k => Post.later hlater k) _ _ _ (h ro _ a w st2)
section ops
variable {t : Tmp} {ty : TypeId} {pos : String} {after : Array Edge}
end ops
end
end Go.Abs
