/- append. -/
import Derived.Test.YtanfmpkjcoolmaaAbsF
set_option linter.unusedVariables false
set_option linter.unusedSimpArgs false
namespace Go.Abs
variable {P : Program} {N : Nat} {ops : Array Oper} {l : List Oper} {Q : Exit → Tm → List Ob → Prop} {tm : Tm} {S : List Ob}

/-- A slice's cells, one behind the other. -/
theorem sl_flat {g : G} {w : World} {ao : Option Addr} {n cap : Nat} {nl : Option Bool} {xs : List (List D)} {c : Cap} {sz : Nat} (r : Rep g w (.slice ao n cap) (.sl nl xs c)) (hsz : ∀ x ∈ xs, x.length = sz) :
    ∃ cs : List Value, cs.length = xs.length * sz ∧ (∀ u ∈ cs, u.oneCell' = true) ∧ (∀ ad, ao = some ad → ∀ (k : Nat) (v : Value), cs[k]? = some v → At g w (ad.add k) v) ∧ (cs ≠ [] → ao.isSome = true) ∧
      ∀ (i : Nat) (x : List D), xs[i]? = some x → ∀ (j : Nat) (d : D), x[j]? = some d → ∃ v, cs[i * sz + j]? = some v ∧ Rep g w v d := by
  cases r with
  | sl st f hn hcap hnone hnl hst hcell hrep hc =>
    have hst' : ∀ (i : Nat) (x : List D), xs[i]? = some x → st = sz := fun i x h => by rw [← hst x (List.mem_of_getElem? h), hsz x (List.mem_of_getElem? h)]
    have key : ∀ k, k < xs.length * sz → ∃ x d, xs[k / sz]? = some x ∧ x[k % sz]? = some d ∧ k / sz * sz + k % sz = k := by
      intro k hk
      have h0 : 0 < sz := by
        rcases Nat.eq_zero_or_pos sz with h | h
        · subst h; simp at hk
        · exact h
      have hi : k / sz < xs.length := by rw [Nat.div_lt_iff_lt_mul h0]; exact hk
      have hm : k % sz < sz := Nat.mod_lt _ h0
      have hx := hsz xs[k / sz] (List.getElem_mem hi)
      exact ⟨xs[k / sz], _, List.getElem?_eq_getElem hi, List.getElem?_eq_getElem (by omega : k % sz < xs[k / sz].length), Nat.div_add_mod' k sz⟩
    refine ⟨(List.range (xs.length * sz)).map fun k => f (k / sz) (k % sz), by simp, ?_, ?_, ?_, ?_⟩
    · intro u hu
      obtain ⟨k, hk, rfl⟩ := List.mem_map.1 hu
      obtain ⟨x, d, h1, h2, h3⟩ := key k (List.mem_range.1 hk)
      obtain ⟨ad, _, hat⟩ := hcell _ x h1 _ d h2
      exact hat.2.2
    · intro ad hao k v hv
      simp only [List.getElem?_map, Option.map_eq_some_iff] at hv
      obtain ⟨k', hk', rfl⟩ := hv
      have hlt : k < xs.length * sz := by have := (List.getElem?_eq_some_iff.1 hk').1; simpa using this
      rw [List.getElem?_range hlt] at hk'
      cases hk'
      obtain ⟨x, d, h1, h2, h3⟩ := key k hlt
      obtain ⟨ad', e, hat⟩ := hcell _ x h1 _ d h2
      rw [hao] at e; cases e
      rw [hst' _ x h1, h3] at hat
      exact hat
    · intro hne
      have hlt : 0 < xs.length * sz := by
        rcases Nat.eq_zero_or_pos (xs.length * sz) with h | h
        · rw [h] at hne; simp at hne
        · exact h
      obtain ⟨x, d, h1, h2, h3⟩ := key 0 hlt
      obtain ⟨ad', e, hat⟩ := hcell _ x h1 _ d h2
      rw [e]; rfl
    · intro i x hx j d hd
      have hj : j < sz := by rw [← hsz x (List.mem_of_getElem? hx)]; exact (List.getElem?_eq_some_iff.1 hd).1
      have hi : i < xs.length := (List.getElem?_eq_some_iff.1 hx).1
      have hk : i * sz + j < xs.length * sz := by
        have : (i + 1) * sz ≤ xs.length * sz := Nat.mul_le_mul_right _ hi
        rw [Nat.add_mul, Nat.one_mul] at this; omega
      refine ⟨f i j, ?_, hrep i x hx j d hd⟩
      rw [List.getElem?_map, List.getElem?_range hk]
      have h1 : (i * sz + j) / sz = i := by rw [Nat.add_comm, Nat.add_mul_div_right _ _ (by omega), Nat.div_eq_of_lt hj, Nat.zero_add]
      have h2 : (i * sz + j) % sz = j := by rw [Nat.add_comm, Nat.add_mul_mod_self_right, Nat.mod_eq_of_lt hj]
      simp only [Option.map_some, h1, h2]

theorem src_of {g : G} {w : World} {ao : Option Addr} {n cap : Nat} {sz : Nat} {tx e : TypeId} (hk : P.underlying tx = some (.slice e)) (hn0 : ao = none → n = 0) (cs : List Value) (hl : cs.length = n * sz) (h1 : ∀ u ∈ cs, u.oneCell' = true)
    (hat : ∀ ad, ao = some ad → ∀ (k : Nat) (v : Value), cs[k]? = some v → At g w (ad.add k) v) : Src P sz tx (.slice ao n cap) n cs w := by
  cases ao with
  | none =>
    have := hn0 rfl
    subst this
    obtain rfl : cs = [] := List.eq_nil_of_length_eq_zero (by simpa using hl)
    exact Src.ofNil w hk cap
  | some ad => exact Src.ofSlice w hk ad n cap cs hl (fun j u h => (hat ad rfl j u h).1) h1

theorem grownCap_ge (w : World) {need old : Nat} (e : TypeId) : need ≤ grownCap w need old e := by
  unfold grownCap
  simp only [Question.cut]
  omega

/-- A row that grows anew: the new block is the row l's. -/
def gGrow (g : G) (l b n : Nat) (h : Value) (lim : Nat) : G := { g with row := upd g.row l (some (n, h)), own := upd g.own b (some l), lim := upd g.lim b lim }

theorem rep_of_flat {g : G} {w : World} {ao : Option Addr} {n cap sz : Nat} {zs : List (List D)} {c : Cap} (cs : List Value) (hn : zs.length = n) (hcap : n ≤ cap) (hnone : ao = none → cap = 0) (hsz : ∀ x ∈ zs, x.length = sz)
    (hat : ∀ (k : Nat) (v : Value), cs[k]? = some v → ∃ ad, ao = some ad ∧ At g w (ad.add k) v)
    (hrep : ∀ (i : Nat) (x : List D), zs[i]? = some x → ∀ (j : Nat) (d : D), x[j]? = some d → ∃ v, cs[i * sz + j]? = some v ∧ Rep g w v d) (hc : CapOk g (.slice ao n cap) n cap c) :
    Rep g w (.slice ao n cap) (.sl none zs c) := by
  refine .sl sz (fun i j => cs.getD (i * sz + j) undef) hn hcap hnone (fun b h => by cases h) hsz ?_ ?_ hc
  · intro i x hx j d hd
    obtain ⟨v, h1, h2⟩ := hrep i x hx j d hd
    obtain ⟨ad, e, k⟩ := hat _ v h1
    refine ⟨ad, e, ?_⟩
    rw [List.getD_eq_getElem?_getD, h1]
    exact k
  · intro i x hx j d hd
    obtain ⟨v, h1, h2⟩ := hrep i x hx j d hd
    rw [List.getD_eq_getElem?_getD, h1]
    exact h2

theorem cat_rep {g : G} {w : World} {xs ys : List (List D)} {cx cy : List Value} {sz : Nat} (hlx : cx.length = xs.length * sz) (hx : ∀ x ∈ xs, x.length = sz)
    (h1 : ∀ (i : Nat) (x : List D), xs[i]? = some x → ∀ (j : Nat) (d : D), x[j]? = some d → ∃ v, cx[i * sz + j]? = some v ∧ Rep g w v d)
    (h2 : ∀ (i : Nat) (x : List D), ys[i]? = some x → ∀ (j : Nat) (d : D), x[j]? = some d → ∃ v, cy[i * sz + j]? = some v ∧ Rep g w v d) :
    ∀ (i : Nat) (x : List D), (xs ++ ys)[i]? = some x → ∀ (j : Nat) (d : D), x[j]? = some d → ∃ v, (cx ++ cy)[i * sz + j]? = some v ∧ Rep g w v d := by
  intro i x hix j d hd
  by_cases hi : i < xs.length
  · rw [List.getElem?_append_left hi] at hix
    obtain ⟨v, e, r⟩ := h1 i x hix j d hd
    refine ⟨v, ?_, r⟩
    rw [List.getElem?_append_left (List.getElem?_eq_some_iff.1 e).1]
    exact e
  · rw [List.getElem?_append_right (by omega)] at hix
    obtain ⟨v, e, r⟩ := h2 (i - xs.length) x hix j d hd
    refine ⟨v, ?_, r⟩
    have hm : i * sz = xs.length * sz + (i - xs.length) * sz := by rw [← Nat.add_mul]; congr 1; omega
    rw [List.getElem?_append_right (by omega), hlx, ← e]
    congr 1; omega

theorem drew_alloc (w : World) (o : Obj) : w.drew.alloc o = (w.alloc o).drew := rfl

/-- The row L lies in a new block. -/
theorem grow_sim {g : G} {w : World} (hs : Sim g w S) {S' : List Ob} {L need sz cap : Nat} (h1 : ∀ (l : Nat) (ob : Ob), S'[l]? = some ob → l = L ∧ ob = .row need sz ∨ l ≠ L ∧ S[l]? = some ob) (h2 : S.length ≤ S'.length) (h3 : L < S'.length)
    (hrow : ∀ n h, g.row L = some (n, h) → n < need) (hbox : ∀ ds, S[L]? ≠ some (.box ds)) (c : Array Value) (T : TypeId) (hcs : c.size = cap * sz) (hcap : need ≤ cap) :
    Sim (gGrow g L w.heap.size need (.slice (some ⟨w.heap.size, 0, none⟩) need cap) (need * sz)) (w.drew.alloc (.cells c T)) S' ∧
    Later g w (gGrow g L w.heap.size need (.slice (some ⟨w.heap.size, 0, none⟩) need cap) (need * sz)) (w.drew.alloc (.cells c T)) := by
  have hown : g.own w.heap.size = none := by
    cases h : g.own w.heap.size with
    | none => rfl
    | some l => exact absurd (hs.own _ _ h).2 (by omega)
  have heq : ∀ b, b < w.heap.size → (w.drew.alloc (.cells c T)).heap[b]? = w.heap[b]? := fun b hb => heap_alloc_lt (w := w) hb
  have hnew : (w.drew.alloc (.cells c T)).heap[w.heap.size]? = some (.cells c T) := heap_alloc_eq (w := w)
  have hle : Le g w (gGrow g L w.heap.size need (.slice (some ⟨w.heap.size, 0, none⟩) need cap) (need * sz)) (w.drew.alloc (.cells c T)) := by
    refine ⟨?_, fun l b h => h, ?_⟩
    · rintro a v ⟨k1, k2, k3⟩
      have hb := cell_block k1
      refine ⟨(cell_same (heq _ hb)).trans k1, ?_, k3⟩
      simp only [gGrow]; rw [upd_other _ _ (by omega)]; exact k2
    · intro l n h e
      by_cases hl : l = L
      · subst hl
        exact ⟨need, .slice (some ⟨w.heap.size, 0, none⟩) need cap, by simp only [gGrow, upd_same], .inl (hrow n h e)⟩
      · exact ⟨n, h, by simp only [gGrow]; rw [upd_other _ _ hl]; exact e, .inr ⟨rfl, rfl⟩⟩
  have hkeep : ∀ b l, b < w.heap.size → g.own b = some l → (gGrow g L w.heap.size need (.slice (some ⟨w.heap.size, 0, none⟩) need cap) (need * sz)).own b = some l := by
    intro b l hb ho
    simp only [gGrow]; rw [upd_other _ _ (by omega)]; exact ho
  refine ⟨⟨?_, ?_, ?_, ?_, ?_⟩, hle, ?_⟩
  · intro l ob h
    rcases h1 l ob h with ⟨rfl, rfl⟩ | ⟨hl, h⟩
    · refine ⟨_, cap, by simp only [gGrow, upd_same], hcap, (fun e => by cases e), .inr ⟨w.heap.size, 0, c, T, rfl, by simp only [gGrow, upd_same], hnew, by omega, by simp only [gGrow, upd_same, Nat.zero_add]⟩⟩
    · refine (hs.obs l ob h).keep hle ⟨by show w.heap.size ≤ (w.alloc (.cells c T)).heap.size; rw [World.size_alloc]; omega, rfl, rfl, rfl⟩ ?_ (fun n x e => by simp only [gGrow]; rw [upd_other _ _ hl]; exact e) (fun e1 e2 => ⟨e1, by simp only [gGrow]; rw [upd_other _ _ hl]; exact e2⟩)
      intro b ho
      have hb := (hs.own b l ho).2
      exact ⟨heq b hb, by simp only [gGrow]; rw [upd_other _ _ (by omega)], hkeep b l hb ho⟩
  · intro l h; exact hs.noEta l (by omega)
  · intro l h
    simp only [gGrow]; rw [upd_other _ _ (by omega)]; exact hs.noRow l (by omega)
  · intro b l h
    show l < S'.length ∧ b < (w.alloc (.cells c T)).heap.size
    rw [World.size_alloc]
    simp only [gGrow] at h
    by_cases e : b = w.heap.size
    · subst e; rw [upd_same] at h; cases h; omega
    · rw [upd_other _ _ e] at h; have := hs.own b l h; omega
  · intro b h
    have h : (w.alloc (.cells c T)).heap.size ≤ b := h
    rw [World.size_alloc] at h
    simp only [gGrow]; rw [upd_other _ _ (by omega)]; exact hs.lim b (by omega)
  · refine ⟨?_, rfl, rfl, rfl, ?_, hkeep, rfl⟩
    · show w.heap.size ≤ (w.alloc (.cells c T)).heap.size
      rw [World.size_alloc]; omega
    · intro b hb ho
      refine ⟨heq b hb, by simp only [gGrow]; rw [upd_other _ _ (by omega)], by simp only [gGrow]; rw [upd_other _ _ (by omega)]; exact ho⟩

/-- The row l grows in its block. -/
theorem place_sim {g : G} {w : World} (hs : Sim g w S) {l0 n m sz cap b off : Nat} {c : Array Value} {T : TypeId} (hl : S[l0]? = some (.row n sz)) (hg : g.row l0 = some (n, .slice (some ⟨b, off, none⟩) n cap)) (hcap : n + m ≤ cap)
    (ho : g.own b = some l0) (hh : w.heap[b]? = some (.cells c T (0, 0))) (hsz : off + cap * sz ≤ c.size) (hlim : g.lim b = off + n * sz) (news : List Value) (hnl : news.length = m * sz) :
    let g' : G := { g with row := upd g.row l0 (some (n + m, .slice (some ⟨b, off, none⟩) (n + m) cap)), lim := upd g.lim b (off + (n + m) * sz) }
    let w' := w.setRow b (c.toList.take (off + n * sz) ++ news ++ c.toList.drop (off + n * sz + news.length)).toArray
    Sim g' w' (S.set l0 (.row (n + m) sz)) ∧ Later g w g' w' ∧ (∀ (k : Nat) (v : Value), news[k]? = some v → w'.cell? ⟨b, off + n * sz + k, none⟩ = some v) ∧ off + (n + m) * sz ≤ c.size := by
  intro g' w'
  have hcl : c.toList.length = c.size := Array.length_toList
  have hbig : off + (n + m) * sz ≤ c.size := Nat.le_trans (Nat.add_le_add_left (Nat.mul_le_mul_right _ hcap) _) hsz
  have hadd : (n + m) * sz = n * sz + m * sz := Nat.add_mul ..
  have hrow : w'.heap[b]? = some (.cells (c.toList.take (off + n * sz) ++ news ++ c.toList.drop (off + n * sz + news.length)).toArray T (0, 0)) := setRow_heap w b c _ T (0, 0) hh
  have hget : ∀ (i : Nat), (c.toList.take (off + n * sz) ++ news ++ c.toList.drop (off + n * sz + news.length)).toArray[i]? = if i < off + n * sz then c[i]? else if i < off + n * sz + news.length then news[i - (off + n * sz)]? else c[i]? := by
    intro i
    rw [List.getElem?_toArray, getElem?_splice _ _ _ (by omega)]
    simp only [Array.getElem?_toList]
  have hle : Le g w g' w' := by
    refine ⟨?_, fun l b h => h, ?_⟩
    · rintro a v ⟨k1, k2, k3⟩
      by_cases e : a.block = b
      · rw [e, hlim] at k2
        refine ⟨?_, by simp only [g']; rw [e, upd_same]; omega, k3⟩
        unfold World.cell? at k1 ⊢
        rw [e] at k1 ⊢
        rw [hrow]
        rw [hh] at k1
        simp only at k1 ⊢
        split at k1
        · cases k1
        · rename_i hsp
          rw [if_neg hsp, hget, if_pos k2]
          exact k1
      · exact ⟨(cell_setRow_other w b _ a e).trans k1, by simp only [g']; rw [upd_other _ _ e]; exact k2, k3⟩
    · intro l n' h e
      by_cases e' : l = l0
      · subst e'
        rw [hg] at e; cases e
        refine ⟨n + m, .slice (some ⟨b, off, none⟩) (n + m) cap, by simp only [g', upd_same], ?_⟩
        rcases Nat.eq_zero_or_pos m with hm | hm
        · subst hm; exact .inr ⟨rfl, rfl⟩
        · exact .inl (by omega)
      · exact ⟨n', h, by simp only [g']; rw [upd_other _ _ e']; exact e, .inr ⟨rfl, rfl⟩⟩
  refine ⟨⟨?_, ?_, ?_, ?_, ?_⟩, ⟨hle, ?_⟩, ?_, hbig⟩
  · intro l ob h
    by_cases e : l = l0
    · subst e
      have hlt : l < S.length := (List.getElem?_eq_some_iff.1 hl).1
      rw [List.getElem?_set_self hlt] at h
      cases h
      refine ⟨_, cap, by simp only [g', upd_same], hcap, (fun e => by cases e), .inr ⟨b, off, _, T, rfl, ho, hrow, ?_, by simp only [g', upd_same]⟩⟩
      simp only [List.size_toArray, List.length_append, List.length_take, List.length_drop, hnl]
      omega
    · rw [List.getElem?_set_ne (by omega)] at h
      refine (hs.obs l ob h).keep hle ⟨by simp [w'], rfl, rfl, rfl⟩ ?_ (fun n x k => by simp only [g']; rw [upd_other _ _ e]; exact k) (fun e1 e2 => ⟨e1, by simp only [g']; rw [upd_other _ _ e]; exact e2⟩)
      intro b1 ho1
      have : b1 ≠ b := by rintro rfl; rw [ho] at ho1; cases ho1; exact e rfl
      exact ⟨setRow_other w b b1 _ this, by simp only [g']; rw [upd_other _ _ this], ho1⟩
  · intro l h; exact hs.noEta l (by simpa using h)
  · intro l h
    have hlt : l0 < S.length := (List.getElem?_eq_some_iff.1 hl).1
    simp only [List.length_set] at h
    simp only [g']; rw [upd_other _ _ (by omega)]; exact hs.noRow l h
  · intro b1 l h; simpa [w'] using hs.own b1 l h
  · intro b1 h
    have h : w.heap.size ≤ b1 := by simpa [w'] using h
    have := block_lt hh
    simp only [g']; rw [upd_other _ _ (by omega)]; exact hs.lim b1 h
  · refine ⟨by simp [w'], rfl, rfl, rfl, ?_, fun b1 l h h' => h', rfl⟩
    intro b1 h1 h2
    have : b1 ≠ b := by rintro rfl; rw [ho] at h2; cases h2
    exact ⟨setRow_other w b b1 _ this, by simp only [g']; rw [upd_other _ _ this], h2⟩
  · intro k v hk
    have hlt := (List.getElem?_eq_some_iff.1 hk).1
    unfold World.cell?
    simp only
    rw [hrow]
    simp only [Option.isSome_none, Bool.false_eq_true, if_false]
    rw [hget, if_neg (by omega), if_pos (by omega), ← hk]
    congr 1; omega

/-- The row l, new, is the slice as it lies: its capacity is its length. -/
theorem same_sim {g : G} {w : World} (hs : Sim g w S) {n sz cap : Nat} {ao : Option Addr} (hcap : cap = n) (hnone : ao = none → cap = 0) :
    let g' : G := { g with row := upd g.row S.length (some (n, .slice ao n cap)) }
    Sim g' w (S ++ [.row n sz]) ∧ Later g w g' w := by
  intro g'
  have hle : Le g w g' w := by
    refine ⟨fun a v h => h, fun l b h => h, ?_⟩
    intro l n' h e
    have : l ≠ S.length := by rintro rfl; rw [hs.noRow _ (Nat.le_refl _)] at e; cases e
    exact ⟨n', h, by simp only [g']; rw [upd_other _ _ this]; exact e, .inr ⟨rfl, rfl⟩⟩
  refine ⟨⟨?_, ?_, ?_, ?_, hs.lim⟩, hle, ?_⟩
  · intro l ob h
    rcases getElem?_snoc h with ⟨h, hlt⟩ | ⟨rfl, rfl⟩
    · exact (hs.obs l ob h).keep hle (.refl w) (fun b ho => ⟨rfl, rfl, ho⟩) (fun n x e => by simp only [g']; rw [upd_other _ _ (by omega)]; exact e) (fun e1 e2 => ⟨e1, by simp only [g']; rw [upd_other _ _ (by omega)]; exact e2⟩)
    · exact ⟨ao, cap, by simp only [g', upd_same], by omega, hnone, .inl hcap⟩
  · intro l h
    simp only [List.length_append, List.length_cons, List.length_nil] at h
    exact hs.noEta l (by omega)
  · intro l h
    simp only [List.length_append, List.length_cons, List.length_nil] at h
    simp only [g']; rw [upd_other _ _ (by omega)]; exact hs.noRow l (by omega)
  · intro b l h
    simp only [List.length_append, List.length_cons, List.length_nil]
    have := hs.own b l h; omega
  · exact ⟨Nat.le_refl _, rfl, rfl, rfl, fun b hb ho => ⟨rfl, rfl, ho⟩, fun b l hb ho => ho, rfl⟩

end Go.Abs
