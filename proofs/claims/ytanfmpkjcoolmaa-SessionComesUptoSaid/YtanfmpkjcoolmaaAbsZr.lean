/- Blocks of known capacity: appended to in place, cleared, made a row. -/
import Derived.Test.YtanfmpkjcoolmaaAbsZq
set_option linter.unusedVariables false
set_option linter.unusedSimpArgs false
namespace Go.Abs
variable {P : Program} {N : Nat} {ops : Array Oper} {l : List Oper} {Q : Exit → Tm → List Ob → Prop} {tm : Tm} {S : List Ob}
section ops
variable {t : Tmp} {ty : TypeId} {pos : String} {after : Array Edge}
/-- append into the room behind it, out of the same block. -/
theorem n_append_bqIn {T tx e e' : TypeId} {x y : Operand} {sz bytes : Nat} {z : Value} {l0 o n cap o2 m cap2 nm : Nat} {ds ds' : List D} {S' : List Ob} (hd : Nat.blt t N = true) (hu : P.underlying T = some (.slice e)) (hux : P.underlying tx = some (.slice e')) (he : EI P e sz bytes z)
    (hx : ev tm x = .bq l0 o n cap) (hy : ev tm y = .bq l0 o2 m cap2) (hl : S[l0]? = some (.box ds)) (hfit : n + m ≤ cap) (hcap : o + cap * sz ≤ ds.length) (hsrc : o2 + m * sz ≤ ds.length) (hone : ∀ d ∈ (ds.drop o2).take (m * sz), d.one = true) (hnm : n + m = nm)
    (hds : splice ds (o + n * sz) ((ds.drop o2).take (m * sz)) = ds') (hS : S.set l0 (.box ds') = S')
    (rest : AOps P N ops l Q (put tm t (.bq l0 o nm cap)) S') : AOps P N ops (⟨some t, .call ⟨.builtin .append, #[x, y], #[T, tx]⟩, ty, pos, after, none⟩ :: l) Q tm S := by
  subst hnm hds hS
  refine AOps.value (o := ⟨some t, .call ⟨.builtin .append, #[x, y], #[T, tx]⟩, ty, pos, after, none⟩) (d := D.bq l0 o (n + m) cap) rfl hd (fun g a w st => ?_) rest
  have rx := st.ev x
  rw [hx] at rx
  have ry := st.ev y
  rw [hy] at ry
  generalize hvx : a.eval x = vx at rx
  generalize hvy : a.eval y = vy at ry
  obtain ⟨i, hi, hsz, hby, hz⟩ := he.info
  subst hsz
  cases rx with
  | bq q1 q2 =>
    rename_i b
    cases ry with
    | bq q3 q4 =>
      rename_i b'
      rw [q1] at q3; cases q3
      obtain ⟨b', c, T', e1, ho, hh, hcs, hlim, hrep⟩ := st.sim.obs l0 _ hl
      rw [q1] at e1; cases e1
      obtain ⟨news, hnews⟩ : ∃ news, news = (c.toList.drop o2).take (m * i.size) := ⟨_, rfl⟩
      have hcl : c.toList.length = c.size := Array.length_toList
      have hnl : news.length = m * i.size := by rw [hnews, List.length_take, List.length_drop]; omega
      have hmul : (n + m) * i.size ≤ cap * i.size := Nat.mul_le_mul_right _ hfit
      have hadd := Nat.add_mul n m i.size
      have hdl : ((ds.drop o2).take (m * i.size)).length = m * i.size := by rw [List.length_take, List.length_drop]; omega
      have hget : ∀ (j : Nat) (u : Value), news[j]? = some u → j < m * i.size ∧ c[o2 + j]? = some u := fun j u hu => by
        have hj : j < m * i.size := by have := (List.getElem?_eq_some_iff.1 hu).1; omega
        rw [hnews, List.getElem?_take, if_pos hj, List.getElem?_drop] at hu
        exact ⟨hj, by simpa using hu⟩
      have hrn : ∀ (j : Nat) (u : Value) (d : D), news[j]? = some u → ((ds.drop o2).take (m * i.size))[j]? = some d → Rep g w u d := fun j u d hu hd => by
        obtain ⟨hj, h1⟩ := hget j u hu
        rw [List.getElem?_take, if_pos hj, List.getElem?_drop] at hd
        exact hrep _ _ _ h1 hd
      have hn1 : ∀ u ∈ news, u.oneCell' = true := fun u hu => by
        obtain ⟨j, hj⟩ := List.getElem?_of_mem hu
        have hjl : j < ((ds.drop o2).take (m * i.size)).length := by rw [hdl]; exact (hget j u hj).1
        exact rep_one (hrn j u _ hj (List.getElem?_eq_getElem hjl)) (hone _ (List.getElem_mem hjl))
      have src : Src P i.size tx (.slice (some ⟨b, o2, none⟩) m cap2) m news w := Src.ofSlice w hux ⟨b, o2, none⟩ m cap2 news hnl (fun j u hu => by
        rw [add_lit]; simp only [World.cell?, hh]; simpa using (hget j u hu).2) hn1
      have hfit2 : o + n * i.size + news.length ≤ c.size := by omega
      have run := run_append_room_src (P := P) w T tx ty e i hu hi b o n cap _ m news src hfit
          (fun j hj => by have : o + n * i.size + j < c.size := by omega
                          simp [World.cell?, hh, this]) (fun j hj => by simp [World.frozen?, hh])
      rw [setCells_eq hh hfit2 hn1] at run
      obtain ⟨k1, k2⟩ := setBox st.sim hl q1 hh (c.toList.take (o + n * i.size) ++ news ++ c.toList.drop (o + n * i.size + news.length)).toArray (splice ds (o + n * i.size) ((ds.drop o2).take (m * i.size)))
        (by rw [splice_length (by omega)]; simp only [List.size_toArray, List.length_append, List.length_take, List.length_drop]; omega) (by
          intro k v d g1 g2
          simp only [List.getElem?_toArray] at g1
          rw [getElem?_splice _ _ _ (by omega)] at g1
          unfold splice at g2
          rw [getElem?_splice _ _ _ (by omega)] at g2
          rw [hnl] at g1
          rw [hdl] at g2
          split at g1
          · rename_i hi
            rw [if_pos hi] at g2
            exact hrep k v d (by simpa using g1) g2
          · rename_i hi
            rw [if_neg hi] at g2
            split at g1
            · rename_i hi2
              rw [if_pos hi2] at g2
              exact hrn _ v d g1 g2
            · rename_i hi2
              rw [if_neg hi2] at g2
              exact hrep k v d (by simpa using g1) g2)
      refine ⟨_, g, _, ?_, .bq q1 hfit, k1, k2⟩
      simp [execOp, resolve, invoke, builtin, hvx, hvy, run]
theorem n_append_bqNo {T tx e e' : TypeId} {x y : Operand} {sz bytes : Nat} {z : Value} {l0 o n cap l1 o2 cap2 : Nat} (hd : Nat.blt t N = true) (hu : P.underlying T = some (.slice e)) (hux : P.underlying tx = some (.slice e')) (he : EI P e sz bytes z)
    (hx : ev tm x = .bq l0 o n cap) (hy : ev tm y = .bq l1 o2 0 cap2)
    (rest : AOps P N ops l Q (put tm t (.bq l0 o n cap)) S) : AOps P N ops (⟨some t, .call ⟨.builtin .append, #[x, y], #[T, tx]⟩, ty, pos, after, none⟩ :: l) Q tm S := by
  refine AOps.still (o := ⟨some t, .call ⟨.builtin .append, #[x, y], #[T, tx]⟩, ty, pos, after, none⟩) (d := D.bq l0 o n cap) rfl hd (fun g a w st => ?_) rest
  have rx := st.ev x
  rw [hx] at rx
  have ry := st.ev y
  rw [hy] at ry
  generalize hvx : a.eval x = vx at rx
  generalize hvy : a.eval y = vy at ry
  obtain ⟨i, hi, hsz, hby, hz⟩ := he.info
  cases rx with
  | bq q1 q2 =>
    rename_i b
    cases ry with
    | bq q3 q4 =>
      rename_i b'
      have src : Src P i.size tx (.slice (some ⟨b', o2, none⟩) 0 cap2) 0 [] w := Src.ofSlice w hux ⟨b', o2, none⟩ 0 cap2 [] (by simp) (fun j u h => by simp at h) (fun u h => by cases h)
      have run := run_append_nothing (P := P) w T tx ty e i hu hi (some ⟨b, o, none⟩) n cap q2 _ src
      refine ⟨_, ?_, .bq q1 q2⟩
      simp [execOp, resolve, invoke, builtin, hvx, hvy, run]
end ops
section ops
variable {dst : Option Tmp} {t' : Tmp} {ty : TypeId} {pos : String} {after : Array Edge}
theorem op_bqClear {t e : TypeId} {x : Operand} {sz bytes : Nat} {z : Value} {l0 o n cap : Nat} {ds : List D} (hd : dstOk N dst = true) (hu : P.underlying t = some (.slice e)) (he : EI P e sz bytes z)
    (hx : ev tm x = .bq l0 o n cap) (hn : 0 < n) (hl : S[l0]? = some (.box ds)) (hlen : o + n * sz ≤ ds.length) (hz1 : z.cells.toList.all (fun v => v.oneCell') = true)
    (rest : AOps P N ops l Q (putO tm dst (.tup [])) (S.set l0 (.box (splice ds o (List.replicate n (z.cells.toList.map ofV)).flatten)))) : AOps P N ops (⟨dst, .call ⟨.builtin .clear, #[x], #[t]⟩, ty, pos, after, none⟩ :: l) Q tm S :=
  .value rfl hd (fun g a w st => by
    have r := st.ev x
    rw [hx] at r
    generalize hvx : a.eval x = v at r
    obtain ⟨i, hi, hsz, hby, hz⟩ := he.info
    cases r with
    | bq q1 q2 =>
      rename_i b
      obtain ⟨b', c, T, e1, ho, hh, hcs, hlim, hrep⟩ := st.sim.obs l0 _ hl
      rw [q1] at e1; cases e1
      obtain ⟨zs, hzs⟩ : ∃ zs, zs = (Builtin.zeroCells z.cells n).toList := ⟨_, rfl⟩
      have hzl : zs.length = n * sz := by rw [hzs, Array.length_toList, zeroCells_size, he.zsize]
      have hfl : ∀ x ∈ List.replicate n (z.cells.toList.map ofV), x.length = sz := fun x hx => by
        rw [List.eq_of_mem_replicate hx, List.length_map, Array.length_toList, he.zsize]
      have hdl : (List.replicate n (z.cells.toList.map ofV)).flatten.length = n * sz := by rw [flat_len hfl, List.length_replicate]
      have h0 : zs ≠ [] → 0 < sz := fun h => by
        rcases Nat.eq_zero_or_pos sz with e | e
        · rw [e] at hzl; simp at hzl; exact absurd hzl h
        · exact e
      have hget : ∀ (k : Nat) (u : Value), zs[k]? = some u → z.cells[k % sz]? = some u := fun k u hu => by
        have h0 := h0 (fun e => by rw [e] at hu; simp at hu)
        rw [hzs] at hu
        simp only [Builtin.zeroCells, Array.getElem?_toList, Array.getElem?_map] at hu
        obtain ⟨k', e1, e2⟩ := Option.map_eq_some_iff.1 hu
        obtain ⟨hk, e3⟩ := Array.getElem?_eq_some_iff.1 e1
        simp only [Array.getElem_range] at e3
        subst e3
        rw [he.zsize] at e2
        have hm : k % sz < z.cells.size := by rw [he.zsize]; exact Nat.mod_lt _ h0
        rw [getElem!_pos z.cells _ hm] at e2
        rw [← e2]; exact Array.getElem?_eq_getElem hm
      have hrz : ∀ (k : Nat) (u : Value) (d : D), zs[k]? = some u → (List.replicate n (z.cells.toList.map ofV)).flatten[k]? = some d → Rep g w u d := fun k u d hu hd => by
        have h0 := h0 (fun e => by rw [e] at hu; simp at hu)
        obtain ⟨x, h1, h2⟩ := flat_inv h0 hfl hd
        have hxe := List.eq_of_mem_replicate (List.mem_of_getElem? h1)
        subst hxe
        have := hget k u hu
        rw [List.getElem?_map, Array.getElem?_toList, this] at h2
        simp only [Option.map_some, Option.some.injEq] at h2
        rw [← h2]; exact rep_ofV u
      have hone : ∀ u ∈ zs, u.oneCell' = true := fun u hu => by
        obtain ⟨k, hk⟩ := List.getElem?_of_mem hu
        exact List.all_eq_true.1 hz1 u (by rw [Array.mem_toList_iff]; exact Array.mem_of_getElem? (hget k u hk))
      have hst := run_storeCells_at (P := P) b o T zs 0 c w hh (by omega) hone
      obtain ⟨k1, k2⟩ := setBox st.sim hl q1 hh (c.toList.take (o + 0) ++ zs ++ c.toList.drop (o + 0 + zs.length)).toArray (splice ds o (List.replicate n (z.cells.toList.map ofV)).flatten)
        (by rw [splice_length (by omega)]; have hcl : c.toList.length = c.size := Array.length_toList; simp only [List.size_toArray, List.length_append, List.length_take, List.length_drop]; omega) (by
          intro i v d g1 g2
          simp only [List.getElem?_toArray, Nat.add_zero] at g1
          rw [getElem?_splice _ _ _ (by have hcl : c.toList.length = c.size := Array.length_toList; omega)] at g1
          unfold splice at g2
          rw [getElem?_splice _ _ _ (by omega)] at g2
          rw [hzl] at g1
          rw [hdl] at g2
          split at g1
          · rename_i hi
            rw [if_pos hi] at g2
            exact hrep i v d (by simpa using g1) g2
          · rename_i hi
            rw [if_neg hi] at g2
            split at g1
            · rename_i hi2
              rw [if_pos hi2] at g2
              exact hrz _ v d g1 g2
            · rename_i hi2
              rw [if_neg hi2] at g2
              exact hrep i v d (by simpa using g1) g2)
      refine ⟨.tuple #[], g, _, ?_, .tup rfl (fun i v d h => by simp at h), k1, k2⟩
      obtain ⟨n', rfl⟩ : ∃ n', n = n' + 1 := ⟨n - 1, by omega⟩
      rw [hzs] at hst
      simp [execOp, resolve, invoke, builtin, hvx, Builtin.clear_, run_underlying hu, zeroValue, typeInfo, hi, hz, hst, hzs]) rest
theorem n_bqClear {dst : Option Tmp} {tt e : TypeId} {x : Operand} {sz bytes : Nat} {z : Value} {l0 o n cap : Nat} {ds zs : List D} {S' : List Ob} (hd : dstOk N dst = true) (hu : P.underlying tt = some (.slice e)) (he : EI P e sz bytes z)
    (hx : ev tm x = .bq l0 o n cap) (hn : 0 < n) (hl : S[l0]? = some (.box ds)) (hlen : o + n * sz ≤ ds.length) (hz1 : z.cells.toList.all (fun v => v.oneCell') = true) (hzs : z.cells.toList.map ofV = zs) (hS : S.set l0 (.box (splice ds o (List.replicate n zs).flatten)) = S')
    (rest : AOps P N ops l Q (putO tm dst (.tup [])) S') : AOps P N ops (⟨dst, .call ⟨.builtin .clear, #[x], #[tt]⟩, ty, pos, after, none⟩ :: l) Q tm S := by
  subst hzs hS; exact op_bqClear hd hu he hx hn hl hlen hz1 rest
end ops
/-- A block of which a variable holds the whole slice: a row from now on. -/
theorem AWP.rowBq {j j' i n cap sz : Nat} {ds es : List D} {xs : List (List D)} {b : List D} {c : Code} {S' : List Ob} (hj' : S[j']? = some (.box es)) (hi : es[i]? = some (.bq j 0 n cap)) (hj : S[j]? = some (.box ds)) (hne : Nat.beq j j' = false) (hds : ds = xs.flatten ++ b) (hn : xs.length = n) (hcap : cap * sz ≤ ds.length) (hsz : ∀ x ∈ xs, x.length = sz)
    (hone : ∀ x ∈ xs, ∀ d ∈ x, d.one = true) (hS : (S.set j (.row n sz)).set j' (.box (es.set i (.sl none xs (.own j)))) = S') (h : AWP P N c Q tm S') : AWP P N c Q tm S := by
  subst hS
  intro ro hro g a w st
  have hne' : j ≠ j' := by rintro rfl; rw [Nat.beq_refl] at hne; cases hne
  obtain ⟨b0, cs, T, e1, e2, e3, e4, e5, e6⟩ := st.sim.obs j _ hj
  obtain ⟨b1, cs1, T1, f1, f2, f3, f4, f5, f6⟩ := st.sim.obs j' _ hj'
  have hjl : j < S.length := (List.getElem?_eq_some_iff.1 hj).1
  have hjl' : j' < S.length := (List.getElem?_eq_some_iff.1 hj').1
  obtain ⟨hs, hhs⟩ : ∃ hs, hs = Value.slice (some ⟨b0, 0, none⟩) n cap := ⟨_, rfl⟩
  obtain ⟨g', hg'⟩ : ∃ g' : G, g' = { g with lim := fun x => if x = b0 then n * sz else g.lim x, row := upd g.row j (some (n, hs)) } := ⟨_, rfl⟩
  have hb : b0 < w.heap.size := (st.sim.own b0 j e2).2
  have hb01 : b1 ≠ b0 := by rintro rfl; rw [e2] at f2; cases f2; exact hne' rfl
  have hncap : n ≤ cap := by
    have hil : i < es.length := (List.getElem?_eq_some_iff.1 hi).1
    have hr := f6 i _ _ (Array.getElem?_eq_getElem (show i < cs1.size by omega)) hi
    generalize cs1[i]'(by omega) = v at hr
    cases hr with
    | bq _ h => exact h
  have hrow : ∀ l, l ≠ j → g'.row l = g.row l := fun l hl => by rw [hg']; simp only; rw [upd_other _ _ hl]
  have hle : Le g w g' w := by
    refine ⟨fun ad v hv => ⟨hv.1, ?_, hv.2.2⟩, fun l b h => by rw [hg']; exact h, fun l n x e => ?_⟩
    · rw [hg']; simp only
      split
      · rename_i h; have := hv.2.1; rw [h, e5.1] at this; omega
      · exact hv.2.1
    · have hl : l ≠ j := by rintro rfl; rw [e5.2] at e; cases e
      exact ⟨n, x, (hrow l hl).trans e, .inr ⟨rfl, rfl⟩⟩
  have hlater : Later g w g' w := ⟨hle, ⟨Nat.le_refl _, rfl, rfl, rfl, fun x hx ho => ⟨rfl, by rw [hg']; simp only; rw [if_neg (by rintro rfl; rw [e2] at ho; cases ho)], by rw [hg']; exact ho⟩, fun x l hx ho => by rw [hg']; exact ho, by rw [hg']⟩⟩
  have hsl : ∀ v, Rep g w v (.bq j 0 n cap) → Rep g' w v (.sl none xs (.own j)) := by
    intro v r
    cases r with
    | bq hb' hcap' =>
      rw [e1] at hb'; cases hb'
      have key : ∀ (i : Nat) (x : List D), xs[i]? = some x → ∀ (j : Nat) (d : D), x[j]? = some d → i * sz + j < n * sz ∧ ∃ u, cs[i * sz + j]? = some u ∧ Rep g w u d := fun i x hx j d hd => by
        have h1 := flat_get hsz hx hd
        have h2 : ds[i * sz + j]? = some d := by rw [hds, List.getElem?_append_left (List.getElem?_eq_some_iff.1 h1).1]; exact h1
        have h3 : i * sz + j < cs.size := Nat.lt_of_lt_of_le (List.getElem?_eq_some_iff.1 h2).1 e4
        have h4 := (List.getElem?_eq_some_iff.1 h1).1
        rw [flat_len hsz, hn] at h4
        exact ⟨h4, _, Array.getElem?_eq_getElem h3, e6 _ _ _ (Array.getElem?_eq_getElem h3) h2⟩
      refine .sl sz (fun i j => cs.getD (i * sz + j) undef) hn hcap' (fun e => by cases e) (fun b h => by cases h) hsz (fun i x hx j d hd => ?_) (fun i x hx j d hd => ?_) ⟨n, hs, by rw [hg']; simp only [upd_same], Nat.le_refl _, fun _ => hhs.symm⟩
      · obtain ⟨k0, u, k1, k2⟩ := key i x hx j d hd
        have q2 : cs.getD (i * sz + j) undef = u := by rw [Array.getD_eq_getD_getElem?, k1]; rfl
        refine ⟨_, rfl, ?_, ?_, ?_⟩
        · rw [add_lit, q2, Nat.zero_add]; simp only [World.cell?, e3]; simpa using k1
        · rw [add_lit, Nat.zero_add, hg']; simp only [if_true]; exact k0
        · rw [q2]; exact rep_one k2 (hone x (List.mem_of_getElem? hx) d (List.mem_of_getElem? hd))
      · obtain ⟨k0, u, k1, k2⟩ := key i x hx j d hd
        have q2 : cs.getD (i * sz + j) undef = u := by rw [Array.getD_eq_getD_getElem?, k1]; rfl
        rw [q2]; exact k2.mono hle
  have hsim : Sim g' w ((S.set j (.row n sz)).set j' (.box (es.set i (.sl none xs (.own j))))) := by
    refine ⟨fun l ob hl => ?_, fun l hl => by rw [hg']; exact st.sim.noEta l (by simpa using hl), fun l hl => ?_, fun x l ho => ?_, fun x hx => ?_⟩
    · by_cases e' : l = j'
      · subst e'
        rw [List.getElem?_set_self (by simpa using hjl')] at hl
        cases hl
        refine ⟨b1, cs1, T1, hle.eta _ _ f1, by rw [hg']; exact f2, f3, by simpa using f4, ⟨by rw [hg']; simp only; rw [if_neg hb01]; exact f5.1, (hrow l (fun e => hne' e.symm)).trans f5.2⟩, fun k v d hv hd => ?_⟩
        by_cases ek : k = i
        · subst ek
          rw [List.getElem?_set_self (List.getElem?_eq_some_iff.1 hi).1] at hd
          cases hd
          exact hsl v (f6 k v _ hv hi)
        · rw [List.getElem?_set_ne (by omega)] at hd
          exact (f6 k v d hv hd).mono hle
      · rw [List.getElem?_set_ne (by omega)] at hl
        by_cases e : l = j
        · subst e
          rw [List.getElem?_set_self hjl] at hl
          cases hl
          refine ⟨some ⟨b0, 0, none⟩, cap, by rw [hg']; simp only [upd_same]; rw [hhs], hncap, fun e => by (cases e), .inr ⟨b0, 0, cs, T, rfl, by rw [hg']; exact e2, e3, by omega, by rw [hg']; simp only [if_true]; omega⟩⟩
        · rw [List.getElem?_set_ne (by omega)] at hl
          refine (st.sim.obs l ob hl).keep hle (.refl w) (fun x ho => ⟨rfl, ?_, by rw [hg']; exact ho⟩) (fun n h e' => by rw [hrow l e]; exact e') (fun k2 => ⟨by rw [hrow l e]; exact k2, fun k1 => by rw [hg']; exact k1⟩)
          rw [hg']; simp only; rw [if_neg (by rintro rfl; rw [e2] at ho; cases ho; exact e rfl)]
    · rw [hrow l (by rintro rfl; simp at hl; omega)]; exact st.sim.noRow l (by simpa using hl)
    · rw [hg'] at ho
      rw [List.length_set, List.length_set]; exact st.sim.own x l ho
    · rw [hg']; simp only; rw [if_neg (by omega)]; exact st.sim.lim x hx
  have st2 : St N g' tm ((S.set j (.row n sz)).set j' (.box (es.set i (.sl none xs (.own j))))) a w := by
    refine ⟨st.size, by rw [hg']; exact st.based, st.once, fun d hd => ?_, fun i => (st.slots i).mono hle, hsim⟩
    obtain ⟨b, k1, k2, k3, k4⟩ := st.defers d hd
    exact ⟨b, k1, by rw [hg']; exact k2, by rw [hg']; exact k3, k4⟩
  exact Code.wpIn_mono (fun e a' w' k => Post.later hlater k) (h ro hro _ a w st2)
end Go.Abs
