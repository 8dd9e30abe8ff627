/- Places kept for variables that are yet to be made: where two of them are made in any order, their numbers do not hang on it. -/
import Derived.Test.YtanfmpkjcoolmaaAbsU
import Derived.Test.YtanfmpkjcoolmaaAbsK
set_option linter.unusedVariables false
set_option linter.unusedSimpArgs false
namespace Go.Abs
variable {P : Program} {N : Nat} {ops : Array Oper} {l : List Oper} {Q : Exit → Tm → List Ob → Prop} {tm : Tm} {S : List Ob}

theorem Sim.reserve {g : G} {w : World} (hs : Sim g w S) : Sim g w (S ++ [.dead]) := by
  refine ⟨fun l ob h => ?_, fun l h => hs.noEta l (by simp at h; omega), fun l h => hs.noRow l (by simp at h; omega), fun b l h => ?_, hs.lim⟩
  · rcases getElem?_snoc h with ⟨h, _⟩ | ⟨rfl, rfl⟩
    · exact hs.obs l ob h
    · exact ⟨hs.noEta _ (Nat.le_refl _), hs.noRow _ (Nat.le_refl _)⟩
  · have := hs.own b l h
    simp only [List.length_append, List.length_cons, List.length_nil]
    omega
theorem AWP.reserve {c : Code} (S' : List Ob) (e : S ++ [.dead] = S') (h : AWP P N c Q tm S') : AWP P N c Q tm S := fun ro hro g a w st => by
  subst e
  exact h ro hro g a w ⟨st.size, st.based, st.once, st.defers, st.slots, st.sim.reserve⟩

theorem newBoxAt {g : G} {w : World} (hs : Sim g w S) {l0 : Nat} (hl : S[l0]? = some .dead) (c : Array Value) (T : TypeId) (ds : List D) (hc : c.size = ds.length)
    (hr : ∀ (i : Nat) (v : Value) (d : D), c[i]? = some v → ds[i]? = some d → Rep g w v d) :
    Sim (gBox g l0 w.heap.size) (w.alloc (.cells c T)) (S.set l0 (.box ds)) ∧ Later g w (gBox g l0 w.heap.size) (w.alloc (.cells c T)) := by
  have hd := hs.obs l0 _ hl
  have hlt : l0 < S.length := (List.getElem?_eq_some_iff.1 hl).1
  have hown : g.own w.heap.size = none := by
    cases h : g.own w.heap.size with
    | none => rfl
    | some l => exact absurd (hs.own _ _ h).2 (by omega)
  have hle : Le g w (gBox g l0 w.heap.size) (w.alloc (.cells c T)) := by
    refine ⟨?_, ?_, ?_⟩
    · rintro a v ⟨h1, h2, h3⟩
      have hb := cell_block h1
      exact ⟨(cell_same (heap_alloc_lt hb)).trans h1, h2, h3⟩
    · intro l b h
      have : l ≠ l0 := by rintro rfl; rw [hd.1] at h; cases h
      simp only [gBox]; rw [upd_other _ _ this]; exact h
    · intro l n h e
      exact ⟨n, h, e, .inr ⟨rfl, rfl⟩⟩
  refine ⟨⟨?_, ?_, ?_, ?_, ?_⟩, hle, ?_⟩
  · intro l ob h
    by_cases e : l = l0
    · subst e
      rw [List.getElem?_set_self hlt] at h
      cases h
      exact ⟨w.heap.size, c, T, by simp [gBox, upd_same], by simp [gBox, upd_same], heap_alloc_eq, Nat.le_of_eq hc.symm, hs.lim _ (Nat.le_refl _), fun i v d h1 h2 => (hr i v d h1 h2).mono hle⟩
    · rw [List.getElem?_set_ne (by omega)] at h
      refine (hs.obs l ob h).keep hle ⟨by simp, rfl, rfl, rfl⟩ ?_ (fun n h e => e) (fun e1 e2 => ⟨by simp only [gBox]; rw [upd_other _ _ e]; exact e1, e2⟩)
      intro b ho
      have hb := (hs.own b l ho).2
      refine ⟨heap_alloc_lt hb, rfl, ?_⟩
      simp only [gBox]; rw [upd_other _ _ (by omega)]; exact ho
  · intro l h
    rw [List.length_set] at h
    simp only [gBox]; rw [upd_other _ _ (by omega)]; exact hs.noEta l h
  · intro l h
    rw [List.length_set] at h
    exact hs.noRow l h
  · intro b l h
    simp only [gBox] at h
    simp only [List.length_set, World.size_alloc]
    by_cases e : b = w.heap.size
    · subst e; rw [upd_same] at h; cases h; omega
    · rw [upd_other _ _ e] at h; have := hs.own b l h; omega
  · intro b h
    simp only [World.size_alloc] at h
    exact hs.lim b (by omega)
  · refine ⟨by simp, rfl, rfl, rfl, ?_, ?_, rfl⟩
    · intro b hb ho
      refine ⟨heap_alloc_lt hb, rfl, ?_⟩
      simp only [gBox]; rw [upd_other _ _ (by omega)]; exact ho
    · intro b l hb ho
      simp only [gBox]; rw [upd_other _ _ (by omega)]; exact ho

section
variable {ty : TypeId} {pos : String} {after : Array Edge} {t : Nat}
theorem n_allocAt (l0 : Nat) {elem : TypeId} {z : Value} {ds : List D} {S' : List Ob} (hd : Nat.blt t N = true) (hz : (P.info? elem).map (·.zero) = some (some z)) (hl : S[l0]? = some .dead) (hds : z.cells.toList.map ofV = ds) (hS : S.set l0 (.box ds) = S')
    (rest : AOps P N ops l Q (put tm t (.bp l0 0)) S') : AOps P N ops (⟨some t, .alloc elem, ty, pos, after, none⟩ :: l) Q tm S :=
  AOps.value (o := ⟨some t, .alloc elem, ty, pos, after, none⟩) rfl hd (d := .bp l0 0) (S' := S') (fun g a w st => by
    subst hds hS
    obtain ⟨i, hi, hz⟩ := Option.map_eq_some_iff.1 hz
    obtain ⟨k1, k2⟩ := newBoxAt st.sim hl z.cells elem (z.cells.toList.map ofV) (by simp) (fun i v d h1 h2 => by
      simp only [List.getElem?_map, Array.getElem?_toList, h1, Option.map_some, Option.some.injEq] at h2
      subst h2
      exact rep_ofV v)
    refine ⟨.pointer (some ⟨w.heap.size, 0, none⟩), _, _, ?_, .bp (by simp [gBox, upd_same]), k1, k2⟩
    simp [execOp, Instr.alloc, zeroValue, typeInfo, hi, hz, newVar, newRow]) rest
end
end Go.Abs
