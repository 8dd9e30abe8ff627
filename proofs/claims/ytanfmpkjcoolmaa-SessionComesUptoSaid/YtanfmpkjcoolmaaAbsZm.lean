/- Literal bytes that are converted to bytes. -/
import Derived.Test.YtanfmpkjcoolmaaAbsZj
set_option linter.unusedVariables false
set_option linter.unusedSimpArgs false
namespace Go.Abs
variable {P : Program} {N : Nat} {ops : Array Oper} {l : List Oper} {Q : Exit → Tm → List Ob → Prop} {tm : Tm} {S : List Ob}
section ops
variable {t : Tmp} {ty : TypeId} {pos : String} {after : Array Edge}
theorem n_lit1Bs {tt e : TypeId} {x : Operand} {a : Int} {bytes n : Nat} {z : Value} {S' : List Ob} (hd : Nat.blt t N = true) (hu : P.underlying tt = some (.slice e)) (he : EI P e 1 bytes z) (hx : ev tm x = .val (.int .u8 a)) (hn : S.length = n) (hS : S ++ [.box [.val (.int .u8 a)]] = S')
    (rest : AOps P N ops l Q (put tm t (.bs n 0 1)) S') : AOps P N ops (⟨some t, .buildSlice tt 1 #[(0, x)], ty, pos, after, none⟩ :: l) Q tm S := by
  subst hn hS
  refine AOps.value (o := ⟨some t, .buildSlice tt 1 #[(0, x)], ty, pos, after, none⟩) rfl hd (d := D.bs S.length 0 1) (S' := S ++ [Ob.box [.val (.int .u8 a)]]) (fun g ac w st => ?_) rest
  have ex := st.ev x; rw [hx] at ex; have ex := ex.val_inv
  obtain ⟨i, hi, hsz, hby, hz⟩ := he.info
  obtain ⟨k1, k2⟩ := newBoxLe st.sim #[.int .u8 a] e [.val (.int .u8 a)] (Nat.le_refl _) (fun k v d h1 h2 => by
    cases k with
    | zero => simp at h1 h2; subst h1 h2; exact .val _
    | succ k => simp at h1)
  refine ⟨.slice (some ⟨w.heap.size, 0, none⟩) 1 1, _, _, ?_, .bs (by simp [gBox, upd_same]) (Nat.le_refl _), k1, k2⟩
  have hrun : (Instr.buildSlice tt 1 #[(0, .int .u8 a)]).run P w = .ok (.slice (some ⟨w.heap.size, 0, none⟩) 1 1) (w.alloc (.cells #[.int .u8 a] e)) := by
    simp [Instr.buildSlice, run_underlying hu, sizeOf, typeInfo, hi, hsz, zeroValue, hz, Instr.fill, Value.cells, newRow]
    have key : ∀ (f : Nat → Value) (v : Value), (Array.map f #[0]).setIfInBounds 0 v = #[v] := fun f v => by simp
    rw [show Array.range 1 = #[0] from rfl, key]
  simp only [execOp, List.map_toArray, List.map_cons, List.map_nil, ex, Sem.run_bind, hrun, Result.andThen_ok, Sem.run_pure]
theorem n_convBs {tt e : TypeId} {x : Operand} {l0 n : Nat} {ds : List D} {xs : List (List D)} {S' : List Ob} (hd : Nat.blt t N = true) (hu : P.underlying tt = some (.slice e)) (he : P.underlying e = some (.int .u8)) (hx : ev tm x = .bs l0 0 n) (hl : S[l0]? = some (.box ds)) (hds : ds = xs.flatten) (hn : xs.length = n) (hsz : ∀ x ∈ xs, x.length = 1)
    (hone : ∀ x ∈ xs, ∀ d ∈ x, d.one = true) (hS : S.set l0 .lent = S')
    (rest : AOps P N ops l Q (put tm t (.sl none xs .ro)) S') : AOps P N ops (⟨some t, .convert tt tt x, ty, pos, after, none⟩ :: l) Q tm S := by
  subst hS
  refine AOps.value (o := ⟨some t, .convert tt tt x, ty, pos, after, none⟩) rfl hd (d := D.sl none xs .ro) (S' := S.set l0 .lent) (fun g a w st => ?_) rest
  have r := st.ev x
  rw [hx] at r
  generalize hvx : a.eval x = v at r
  obtain ⟨b0, cs, T, e1, e2, e3, e4, e5, e6⟩ := st.sim.obs l0 _ hl
  have hjl : l0 < S.length := (List.getElem?_eq_some_iff.1 hl).1
  have hb : b0 < w.heap.size := (st.sim.own b0 l0 e2).2
  cases r with
  | bs q1 q2 =>
    rw [e1] at q1; cases q1
    rename_i cap
    obtain ⟨w', hw'⟩ : ∃ w' : World, w' = w.freeze ⟨b0, cs.size, none⟩ 1 := ⟨_, rfl⟩
    have hsame : ∀ x, x ≠ b0 → w'.heap[x]? = w.heap[x]? := fun x hx => by
      rw [hw']; simp only [World.freeze]; rw [if_neg (by decide)]; simp only [Array.getElem?_modify]; rw [if_neg (fun h => hx h.symm)]
    have hnew : w'.heap[b0]? = some (.cells cs T (cs.size, cs.size + 1)) := by
      rw [hw']; simp only [World.freeze]; rw [if_neg (by decide)]; simp only [Array.getElem?_modify, if_true, e3, Option.map_some]; rfl
    have hsize : w'.heap.size = w.heap.size := by rw [hw']; simp [World.freeze]
    have hext : Ext w w' := ⟨Nat.le_of_eq hsize.symm, by rw [hw']; rfl, by rw [hw']; rfl, by rw [hw']; rfl⟩
    obtain ⟨g', hg'⟩ : ∃ g' : G, g' = { g with lim := fun x => if x = b0 then cs.size else g.lim x } := ⟨_, rfl⟩
    have hle : Le g w g' w' := by
      refine ⟨fun ad v hv => ?_, fun l b h => by rw [hg']; exact h, fun l n x e => ⟨n, x, by rw [hg']; exact e, .inr ⟨rfl, rfl⟩⟩⟩
      have hne : ad.block ≠ b0 := by intro h; have := hv.2.1; rw [h, e5.1] at this; omega
      exact ⟨(cell_same (hsame _ hne)).trans hv.1, by rw [hg']; simp only; rw [if_neg hne]; exact hv.2.1, hv.2.2⟩
    have hlater : Later g w g' w' := ⟨hle, hext.size, hext.os, hext.tape, hext.output, fun x hx ho => by
      have hne : x ≠ b0 := by rintro rfl; rw [e2] at ho; cases ho
      exact ⟨hsame x hne, by rw [hg']; simp only; rw [if_neg hne], by rw [hg']; exact ho⟩, fun x l hx ho => by rw [hg']; exact ho, by rw [hg']⟩
    have hsim : Sim g' w' (S.set l0 .lent) := by
      refine ⟨fun l ob hl => ?_, fun l hl => by rw [hg']; exact st.sim.noEta l (by simpa using hl), fun l hl => by rw [hg']; exact st.sim.noRow l (by simpa using hl), fun x l ho => ?_, fun x hx => ?_⟩
      · by_cases e : l = l0
        · subst e
          rw [List.getElem?_set_self hjl] at hl
          cases hl; trivial
        · rw [List.getElem?_set_ne (by omega)] at hl
          refine (st.sim.obs l ob hl).keep hle hext (fun x ho => ?_) (fun n h e => by rw [hg']; exact e) (fun k2 => ⟨by rw [hg']; exact k2, fun k1 => by rw [hg']; exact k1⟩)
          have hne : x ≠ b0 := by rintro rfl; rw [e2] at ho; cases ho; exact e rfl
          exact ⟨hsame x hne, by rw [hg']; simp only; rw [if_neg hne], by rw [hg']; exact ho⟩
      · rw [hg'] at ho
        rw [List.length_set, hsize]; exact st.sim.own x l ho
      · rw [hg']; simp only; rw [if_neg (by omega)]; exact st.sim.lim x (by omega)
    refine ⟨.slice (some ⟨b0, 0, none⟩) n cap, g', w', ?_, ?_, hsim, hlater⟩
    · have hsh : w.shape? b0 = some (T, cs.size) := by simp [World.shape?, e3]
      have hc : (convert tt tt (.slice (some ⟨b0, 0, none⟩) n cap)).run P w = .ok (.slice (some ⟨b0, 0, none⟩) n cap) w' := by
        simp [convert, run_underlying hu, run_underlying he, markStringish, hsh, hw']
      simp only [execOp, hvx, Sem.run_bind, hc, Result.andThen_ok, Sem.run_pure]
    · have key : ∀ (i : Nat) (x : List D), xs[i]? = some x → ∀ (j : Nat) (d : D), x[j]? = some d → ∃ u, cs[i * 1 + j]? = some u ∧ Rep g w u d := fun i x hx j d hd => by
        have h1 := flat_get hsz hx hd
        rw [← hds] at h1
        have h3 : i * 1 + j < cs.size := Nat.lt_of_lt_of_le (List.getElem?_eq_some_iff.1 h1).1 e4
        exact ⟨_, Array.getElem?_eq_getElem h3, e6 _ _ _ (Array.getElem?_eq_getElem h3) h1⟩
      refine .sl 1 (fun i j => cs.getD (i * 1 + j) undef) hn q2 (fun e => by cases e) (fun b h => by cases h) hsz (fun i x hx j d hd => ?_) (fun i x hx j d hd => ?_) trivial
      · obtain ⟨u, k1, k2⟩ := key i x hx j d hd
        have q2 : cs.getD (i * 1 + j) undef = u := by rw [Array.getD_eq_getD_getElem?, k1]; rfl
        refine ⟨_, rfl, ?_, ?_, ?_⟩
        · rw [add_lit, q2, Nat.zero_add]; simp only [World.cell?, hnew]; simpa using k1
        · rw [add_lit, Nat.zero_add, hg']; simp only [if_true]; exact (Array.getElem?_eq_some_iff.1 k1).1
        · rw [q2]; exact rep_one k2 (hone x (List.mem_of_getElem? hx) d (List.mem_of_getElem? hd))
      · obtain ⟨u, k1, k2⟩ := key i x hx j d hd
        have q2 : cs.getD (i * 1 + j) undef = u := by rw [Array.getD_eq_getD_getElem?, k1]; rfl
        rw [q2]; exact k2.mono hle
end ops
end Go.Abs
