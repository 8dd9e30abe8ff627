/- The loop over a function. -/
import Derived.Test.YtanfmpkjcoolmaaAbsY
set_option linter.unusedVariables false
set_option linter.unusedSimpArgs false
namespace Go.Abs
variable {P : Program} {N : Nat} {ops : Array Oper} {Q : Exit → Tm → List Ob → Prop} {tm : Tm} {S : List Ob}

/-- Lent to the iterator. -/
def lend : List Nat → List Ob → List Ob
  | [], S => S
  | l :: ι, S => lend ι (S.set l .lent)
theorem lend_length : ∀ (ι : List Nat) (S : List Ob), (lend ι S).length = S.length
  | [], S => rfl
  | l :: ι, S => by rw [lend, lend_length, List.length_set]
theorem lend_get : ∀ (ι : List Nat) (S : List Ob) (j : Nat) (ob : Ob), (lend ι S)[j]? = some ob → j ∈ ι ∧ ob = .lent ∨ j ∉ ι ∧ S[j]? = some ob ∨ ob = .lent
  | [], S, j, ob, h => .inr (.inl ⟨by simp, h⟩)
  | l :: ι, S, j, ob, h => by
    rcases lend_get ι _ j ob h with ⟨h1, h2⟩ | ⟨h1, h2⟩ | h2
    · exact .inr (.inr h2)
    · by_cases e : j = l
      · subst e
        have hlt : j < S.length := by have := (List.getElem?_eq_some_iff.1 h2).1; simpa using this
        rw [List.getElem?_set_self hlt] at h2
        cases h2
        exact .inr (.inr rfl)
      · rw [List.getElem?_set_ne (by omega)] at h2
        exact .inr (.inl ⟨by simp [e, h1], h2⟩)
    · exact .inr (.inr h2)

/-- The caller's own blocks while the loop goes on, the loop's two among them. -/
structure Mine (gs : G) (ws : World) (ι : List Nat) (rec dfr : Nat) (g : G) (B : Nat → Prop) (w : World) : Prop where
  base : g.base = gs.base
  le : Le gs ws g w
  ext : Ext ws w
  free : ∀ b, b < ws.heap.size → gs.own b = none → g.own b = none
  kept : ∀ b l, b < ws.heap.size → gs.own b = some l → l ∉ ι → g.own b = some l
  lent : ∀ b l, b < ws.heap.size → gs.own b = some l → l ∈ ι → g.own b = none
  iff : ∀ b, B b ↔ (g.own b ≠ none ∨ b = rec ∨ b = dfr)
  recNew : gs.own rec = none ∧ rec < ws.heap.size
  dfrNew : gs.own dfr = none ∧ dfr < ws.heap.size
  ne : rec ≠ dfr
  dblock : w.heap[dfr]? = some (.deferred (some []))
def Phase (rc : LoopState → Option Code → Loop) (rec : Nat) (O : Nat → List Ob) (Left : Code → List Ob → Prop) : Option Nat → List Ob → World → Prop
  | some k, S1, w => S1 = O k ∧ w.heap[rec]? = some (.loop (rc .ready none))
  | none, S1, w => ∃ c, Left c S1 ∧ w.heap[rec]? = some (.loop (rc .done (some c)))
def JR (gs : G) (ws : World) (ι : List Nat) (rec dfr : Nat) (rc : LoopState → Option Code → Loop) (O : Nat → List Ob) (Left : Code → List Ob → Prop) : Hid := fun kk lim B w =>
  ∃ g S1, g.lim = lim ∧ Sim g w S1 ∧ Mine gs ws ι rec dfr g B w ∧ Phase rc rec O Left kk S1 w
theorem JR.stays {gs : G} {ws : World} {ι : List Nat} {rec dfr : Nat} {rc : LoopState → Option Code → Loop} {O : Nat → List Ob} {Left : Code → List Ob → Prop} {kk : Option Nat} {g : G} {S1 : List Ob} {B : Nat → Prop} {w : World}
    (hs : Sim g w S1) (hm : Mine gs ws ι rec dfr g B w) (hp : Phase rc rec O Left kk S1 w) : Stays (JR gs ws ι rec dfr rc O Left) kk g.lim B w := by
  intro lim' w' hx hb ha hl
  have hle : Le g w { g with lim := lim' } w' := ⟨fun a v h => ha a v h, fun _ _ h => h, fun _ n h e => ⟨n, h, e, .inr ⟨rfl, rfl⟩⟩⟩
  have hrec : w'.heap[rec]? = w.heap[rec]? := (hb rec ((hm.iff rec).2 (.inr (.inl rfl)))).1
  have hdfr : w'.heap[dfr]? = w.heap[dfr]? := (hb dfr ((hm.iff dfr).2 (.inr (.inr rfl)))).1
  refine ⟨{ g with lim := lim' }, S1, rfl, ⟨fun l ob h => (hs.obs l ob h).keep hle hx (fun b ho => ?_) (fun n h e => e) (fun e1 e2 => ⟨e1, e2⟩), hs.noEta, hs.noRow, fun b l e => ?_, hl⟩, ?_, ?_⟩
  · have := hb b ((hm.iff b).2 (.inl (by rw [ho]; simp)))
    exact ⟨this.1, this.2, ho⟩
  · have := hs.own b l e
    exact ⟨this.1, Nat.lt_of_lt_of_le this.2 hx.size⟩
  · exact ⟨hm.base, hm.le.trans hle, hm.ext.trans hx, hm.free, hm.kept, hm.lent, hm.iff, hm.recNew, hm.dfrNew, hm.ne, hdfr.trans hm.dblock⟩
  · cases kk with
    | some k => exact ⟨hp.1, hrec.trans hp.2⟩
    | none => obtain ⟨c, h1, h2⟩ := hp; exact ⟨c, h1, hrec.trans h2⟩

/-- What a round does, the record aside. -/
structure Fr2 (rec : Nat) (g : G) (w : World) (g' : G) (w' : World) : Prop where
  le : Le g w g' w'
  ext : Ext w w'
  old : ∀ b, b < w.heap.size → g.own b = none → b ≠ rec → w'.heap[b]? = w.heap[b]? ∧ g'.lim b = g.lim b ∧ g'.own b = none
  limR : g'.own rec = none
  kept : ∀ b l, b < w.heap.size → g.own b = some l → g'.own b = some l
  base : g'.base = g.base
theorem Later.fr2 {rec : Nat} {g g' : G} {w w' : World} (h : Later g w g' w') (hr : rec < w.heap.size) (ho : g.own rec = none) : Fr2 rec g w g' w' :=
  ⟨h.1, h.2.ext, fun b hb ho _ => h.2.old b hb ho, (h.2.old rec hr ho).2.2, h.2.kept, h.2.base⟩
theorem Fr2.trans {rec : Nat} {g g' g'' : G} {w w' w'' : World} (h : Fr2 rec g w g' w') (k : Fr2 rec g' w' g'' w'') : Fr2 rec g w g'' w'' :=
  ⟨h.le.trans k.le, h.ext.trans k.ext, fun b hb ho hr => by
    obtain ⟨e1, e2, e3⟩ := h.old b hb ho hr
    obtain ⟨f1, f2, f3⟩ := k.old b (Nat.lt_of_lt_of_le hb h.ext.size) e3 hr
    exact ⟨f1.trans e1, f2.trans e2, f3⟩, k.limR, fun b l hb ho => k.kept b l (Nat.lt_of_lt_of_le hb h.ext.size) (h.kept b l hb ho), k.base.trans h.base⟩
theorem Fr2.putRec {rec : Nat} {g : G} {w : World} (hs : Sim g w S) {o : Obj} (o' : Obj) (hh : w.heap[rec]? = some o) (ho : o.isCells = false) (hw : g.own rec = none) : Fr2 rec g w g (w.putObj rec o') :=
  ⟨(putFree hs o' hh ho hw).2, ⟨by simp, rfl, rfl, rfl⟩, fun b hb ho hne => ⟨World.putObj_heap_other hne, rfl, ho⟩, hw, fun _ _ _ h => h, rfl⟩
theorem Fr2.cut {rec m : Nat} {g g1 : G} {w w1 : World} (hs : Sim g w S) (hm : S.length ≤ m) (h : Fr2 rec g w g1 w1) : Fr2 rec g w (g1.cut m) w1 := by
  refine ⟨⟨h.le.cell, fun l b e => ?_, fun l n x e => ?_⟩, h.ext, fun b hb ho hr => ?_, by simp only [G.cut, h.limR, Option.bind_none], fun b l hb ho => ?_, h.base⟩
  · have hl : l < S.length := by
      rcases Nat.lt_or_ge l S.length with h' | h'
      · exact h'
      · rw [hs.noEta l h'] at e; cases e
    simp only [G.cut, if_pos (Nat.lt_of_lt_of_le hl hm)]
    exact h.le.eta l b e
  · have hl : l < S.length := by
      rcases Nat.lt_or_ge l S.length with h' | h'
      · exact h'
      · rw [hs.noRow l h'] at e; cases e
    obtain ⟨n', h', e', d'⟩ := h.le.row l n x e
    exact ⟨n', h', by simp only [G.cut, if_pos (Nat.lt_of_lt_of_le hl hm)]; exact e', d'⟩
  · obtain ⟨e1, e2, e3⟩ := h.old b hb ho hr
    exact ⟨e1, e2, by simp only [G.cut, e3, Option.bind_none]⟩
  · have e := h.kept b l hb ho
    have hl := (hs.own b l ho).1
    simp only [G.cut, e, Option.bind_some, if_pos (Nat.lt_of_lt_of_le hl hm)]
/-- So the iterator's things lie as they lay. -/
theorem Fr2.turn {gs : G} {ws : World} {ι : List Nat} {rec dfr : Nat} {g g' : G} {B : Nat → Prop} {w w' : World} {S' : List Ob} (h : Fr2 rec g w g' w') (hm : Mine gs ws ι rec dfr g B w) (hs : Sim g w S) (hs' : Sim g' w' S') :
    Turn g.lim B w g'.lim (fun b => g'.own b ≠ none ∨ b = rec ∨ b = dfr) w' ∧ Mine gs ws ι rec dfr g' (fun b => g'.own b ≠ none ∨ b = rec ∨ b = dfr) w' := by
  have hrec : rec < w.heap.size := Nat.lt_of_lt_of_le hm.recNew.2 hm.ext.size
  have hdfr : dfr < w.heap.size := Nat.lt_of_lt_of_le hm.dfrNew.2 hm.ext.size
  have ho : ∀ b, ¬ B b → g.own b = none ∧ b ≠ rec ∧ b ≠ dfr := fun b hb => by
    have := fun h => hb ((hm.iff b).2 h)
    refine ⟨?_, fun e => this (.inr (.inl e)), fun e => this (.inr (.inr e))⟩
    cases e : g.own b with
    | none => rfl
    | some l => exact absurd (.inl (by rw [e]; simp)) this
  refine ⟨⟨h.ext, ?_, ?_, h.le.cell, hs'.lim, ?_⟩, ⟨h.base.trans hm.base, hm.le.trans h.le, hm.ext.trans h.ext, ?_, ?_, ?_, fun b => Iff.rfl, hm.recNew, hm.dfrNew, hm.ne, ?_⟩⟩
  · intro b hb hB
    obtain ⟨e1, e2, e3⟩ := ho b hB
    obtain ⟨f1, f2, f3⟩ := h.old b hb e1 e2
    exact ⟨f1, f2, fun h => by rcases h with h | h | h; exact h f3; exact e2 h; exact e3 h⟩
  · intro b hb
    rcases (hm.iff b).1 hb with e | e | e
    · cases e1 : g.own b with
      | none => exact absurd e1 e
      | some l =>
        refine .inl ?_
        rw [h.kept b l (hs.own b l e1).2 e1]; simp
    · exact .inr (.inl e)
    · exact .inr (.inr e)
  · intro b hb
    rcases hb with e | e | e
    · cases e1 : g'.own b with
      | none => exact absurd e1 e
      | some l => exact (hs'.own b l e1).2
    · subst e; exact Nat.lt_of_lt_of_le hrec h.ext.size
    · subst e; exact Nat.lt_of_lt_of_le hdfr h.ext.size
  · intro b hb e
    by_cases er : b = rec
    · subst er; exact h.limR
    · exact (h.old b (Nat.lt_of_lt_of_le hb hm.ext.size) (hm.free b hb e) er).2.2
  · intro b l hb e hl
    exact h.kept b l (Nat.lt_of_lt_of_le hb hm.ext.size) (hm.kept b l hb e hl)
  · intro b l hb e hl
    have hn := hm.lent b l hb e hl
    have er : b ≠ rec := by rintro rfl; rw [hm.recNew.1] at e; cases e
    exact (h.old b (Nat.lt_of_lt_of_le hb hm.ext.size) hn er).2.2
  · have hn := hm.free dfr hm.dfrNew.2 hm.dfrNew.1
    exact (h.old dfr hdfr hn (Ne.symm hm.ne)).1.trans hm.dblock

/-- A loop variable's slots. -/
def putPs : List Tmp → List D → Tm → Tm
  | p :: ps, d :: ds, tm => putPs ps ds (put tm p d)
  | _, _, tm => tm
theorem rep_zip {g : G} {w : World} : ∀ (ps : List Tmp) (vs : List Value) (ds : List D) (t : Array Value) (tm : Tm), vs.length = ds.length → ps.length = ds.length → (∀ (i : Nat) (v : Value) (d : D), vs[i]? = some v → ds[i]? = some d → Rep g w v d) → (∀ i, Rep g w (t.getD i undef) (tm i)) →
    (∀ p ∈ ps, p < t.size) → ((ps.zip vs).foldl (fun t (p : Tmp × Value) => t.setIfInBounds p.1 p.2) t).size = t.size ∧ ∀ i, Rep g w (((ps.zip vs).foldl (fun t (p : Tmp × Value) => t.setIfInBounds p.1 p.2) t).getD i undef) (putPs ps ds tm i)
  | [], vs, ds, t, tm, h1, h2, h3, h4, _ => by
    have : ds = [] := List.eq_nil_of_length_eq_zero (by simpa using h2.symm)
    subst this
    exact ⟨rfl, h4⟩
  | p :: ps, vs, ds, t, tm, h1, h2, h3, h4, h5 => by
    cases ds with
    | nil => simp at h2
    | cons d ds =>
      cases vs with
      | nil => simp at h1
      | cons v vs =>
        simp only [List.zip_cons_cons, List.foldl_cons, putPs]
        have hp := h5 p (by simp)
        obtain ⟨k1, k2⟩ := rep_zip (g := g) (w := w) ps vs ds (t.setIfInBounds p v) (put tm p d) (by simpa using h1) (by simpa using h2) (fun i v d e1 e2 => h3 (i + 1) v d (by simpa using e1) (by simpa using e2)) (fun i => by
          by_cases e : i = p
          · subst e
            rw [put_same]
            have : (t.setIfInBounds i v).getD i undef = v := by simp [Array.getD, hp]
            rw [this]; exact h3 0 v d rfl rfl
          · rw [put_other _ _ e]
            have : (t.setIfInBounds p v).getD i undef = t.getD i undef := by
              simp only [Array.getD_eq_getD_getElem?]
              rw [Array.getElem?_setIfInBounds_ne (by omega)]
            rw [this]; exact h4 i) (fun q hq => by simpa using h5 q (by simp [hq]))
        exact ⟨by rw [k1]; simp, k2⟩

/-- How a round may be left. -/
def RQ (O : Nat → List Ob) (Left : Code → List Ob → Prop) (k : Nat) : Exit → Tm → List Ob → Prop
  | .normal, _, S' => ∃ T, S' = O (k + 1) ++ T
  | .ret, _, S' => Left .ret S'
  | .exit id, _, S' => Left (.exit id) S'
  | .goto t, _, S' => Left (.goto t) S'
  | _, _, _ => False

theorem St.turnRec {g : G} {a : Act} {w : World} {rec : Nat} {r : Loop} (o' : Obj) (st : St N g tm S a w) (hh : w.heap[rec]? = some (.loop r)) (hw : g.own rec = none) : St N g tm S a (w.putObj rec o') := by
  obtain ⟨h1, h2⟩ := putFree st.sim o' hh rfl hw
  refine ⟨st.size, by simpa using st.based, st.once, ?_, fun i => (st.slots i).mono h2, h1⟩
  intro d hd
  obtain ⟨b, e, q1, q2, q3⟩ := st.defers d hd
  have : b ≠ rec := by rintro rfl; rw [hh] at q3; cases q3
  exact ⟨b, e, q1, q2, (World.putObj_heap_other this).trans q3⟩

/-- The rounds. -/
theorem yields_of {ps : Array Tmp} {assign body : Code} {xs : List (List D)} {O : Nat → List Ob} {Left : Code → List Ob → Prop} {gs : G} {ws : World} {ι : List Nat} {rec dfr fnid : Nat} {tmps : Array Value}
    (hps : ∀ x ∈ xs, x.length = ps.size) (hlf : ∀ x ∈ xs, ∀ d ∈ x, LF d) (hpb : ∀ p ∈ ps, p < N) (hsz : tmps.size = N) (htm : ∀ i, Rep gs ws (tmps.getD i undef) (tm i)) (hbase : gs.base ≤ ws.heap.size) (m : Nat) (hlen : ∀ k, (O k).length = m) (hun : ∀ k, ∀ ob ∈ O k, ObUn m ob)
    (hna : nr assign = true) (hnb : nr body = true)
    (round : ∀ k x, xs[k]? = some x → AWP P N assign (Then (fun tm1 S1 => AWP P N body (RQ O Left k) tm1 S1) (fun _ _ _ => False)) (putPs ps.toList x tm) (O k)) :
    Yields P rec (JR gs ws ι rec dfr (fun st pe => { state := st, pending := pe, fn := fnid, tmps, params := ps, assign, body, defers := dfr }) O Left) xs := by
  intro k x vs lim B W hx hJ hBlt hvs hreps
  obtain ⟨g, S1, rfl, hsim, hm, rfl, hrec⟩ := hJ
  have hxm := List.mem_of_getElem? hx
  have hrl : rec < W.heap.size := Nat.lt_of_lt_of_le hm.recNew.2 hm.ext.size
  have hro : g.own rec = none := hm.free rec hm.recNew.2 hm.recNew.1
  refine ⟨fnid, _, assign, body, run_yield hrec (by rw [hvs]; exact hps x hxm), ?_⟩
  refine roundIn_of_wpIn (F := Fence.wide) trivial ?_
  have hz := rep_zip (g := g) (w := W) ps.toList vs.toList x tmps tm (by simpa using hvs) (by rw [Array.length_toList]; exact (hps x hxm).symm) (fun i v d e1 e2 => Rep.lf (g := gL g.lim) (g' := g) rfl (hreps i v d (by simpa using e1) e2) (hlf x hxm d (List.mem_of_getElem? e2))) (fun i => (htm i).mono hm.le) (fun p hp => by rw [hsz]; exact hpb p (by simpa using hp))
  have hfold : (ps.zip vs).foldl (fun tmps (p : Tmp × Value) => tmps.setIfInBounds p.1 p.2) tmps = (ps.toList.zip vs.toList).foldl (fun t (p : Tmp × Value) => t.setIfInBounds p.1 p.2) tmps := by
    rw [← Array.foldl_toList, Array.toList_zip]
  have st0 : St N g (putPs ps.toList x tm) (O k) { tmps := (ps.zip vs).foldl (fun tmps (p : Tmp × Value) => tmps.setIfInBounds p.1 p.2) tmps, defers := [] } W := by
    rw [hfold]
    exact ⟨by show Array.size _ = N; rw [hz.1, hsz], by rw [hm.base]; exact Nat.le_trans hbase hm.ext.size, List.nodup_nil, (fun d h => by cases h), hz.2, hsim⟩
  have hw := round k x hx (some rec) (fun _ => hna) g _ W st0
  refine Code.wpIn_mono ?_ hw
  rintro e a1 W1 ⟨g1, tm1, S1, q, st1, hl1⟩
  cases e with
  | normal =>
    have hf1 := hl1.fr2 hrl hro
    have hrec1 := (hl1.2.old rec hrl hro).1.trans hrec
    have hro1 := (hl1.2.old rec hrl hro).2.2
    have hrl1 := Nat.lt_of_lt_of_le hrl hl1.2.size
    refine ⟨_, run_beginRound hrec1 rfl, ?_⟩
    have st2 := st1.turnRec (.loop { state := .busy, pending := none, fn := fnid, tmps, params := ps, assign, body, defers := dfr }) hrec1 hro1
    have hf2 := Fr2.putRec st1.sim (.loop { state := .busy, pending := none, fn := fnid, tmps, params := ps, assign, body, defers := dfr }) hrec1 rfl hro1
    have hrec2 : (W1.putObj rec (.loop { state := .busy, pending := none, fn := fnid, tmps, params := ps, assign, body, defers := dfr })).heap[rec]? = some (.loop { state := .busy, pending := none, fn := fnid, tmps, params := ps, assign, body, defers := dfr }) := World.putObj_heap_same hrl1
    refine Code.wpIn_mono ?_ (q (some rec) (fun _ => hnb) g1 a1 _ st2)
    rintro e a2 W3 ⟨g2, tm2, S2, q2, st3, hl3⟩
    have hrl2 : rec < (W1.putObj rec (.loop { state := .busy, pending := none, fn := fnid, tmps, params := ps, assign, body, defers := dfr })).heap.size := by simpa using hrl1
    have hf3 := hl3.fr2 hrl2 hro1
    have hrec3 := (hl3.2.old rec hrl2 hro1).1.trans hrec2
    have hro3 := (hl3.2.old rec hrl2 hro1).2.2
    have hall := (hf1.trans hf2).trans hf3
    -- the end of the round
    have leave : ∀ c : Code, Left c S2 → ∃ v w', (Instr.endRound rec (some c)).run P W3 = .ok v w' ∧ ∃ lim' B' b, Ending.returned v = .returned (.bool b) ∧ Turn g.lim B W lim' B' w' ∧ Stays (JR gs ws ι rec dfr (fun st pe => { state := st, pending := pe, fn := fnid, tmps, params := ps, assign, body, defers := dfr }) O Left) (if b then some (k + 1) else none) lim' B' w' := by
      intro c hc
      have h4 := hall.trans (Fr2.putRec st3.sim (.loop { state := .done, pending := some c, fn := fnid, tmps, params := ps, assign, body, defers := dfr }) hrec3 rfl hro3)
      have s4 := (putFree st3.sim (.loop { state := .done, pending := some c, fn := fnid, tmps, params := ps, assign, body, defers := dfr }) hrec3 rfl hro3).1
      obtain ⟨t1, t2⟩ := h4.turn hm hsim s4
      refine ⟨_, _, run_endRound (some c) hrec3, g2.lim, _, false, rfl, t1, ?_⟩
      exact JR.stays s4 t2 ⟨c, hc, World.putObj_heap_same (Array.getElem?_eq_some_iff.1 hrec3).1⟩
    cases e with
    | normal =>
      obtain ⟨T, hT⟩ := q2
      have h4 := hall.trans (Fr2.putRec st3.sim (.loop { state := .ready, pending := none, fn := fnid, tmps, params := ps, assign, body, defers := dfr }) hrec3 rfl hro3)
      have s4 := (putFree st3.sim (.loop { state := .ready, pending := none, fn := fnid, tmps, params := ps, assign, body, defers := dfr }) hrec3 rfl hro3).1
      have h5 := h4.cut (m := m) hsim (by rw [hlen k]; exact Nat.le_refl _)
      have s5 : Sim (g2.cut m) (W3.putObj rec (.loop { state := .ready, pending := none, fn := fnid, tmps, params := ps, assign, body, defers := dfr })) (O (k + 1)) := by
        have := Sim.cut (S := O (k + 1)) (T := T) (by rw [← hT]; exact s4) (by rw [hlen]; exact hun (k + 1))
        rwa [hlen] at this
      obtain ⟨t1, t2⟩ := h5.turn hm hsim s5
      refine ⟨_, _, run_endRound none hrec3, (g2.cut m).lim, _, true, rfl, t1, ?_⟩
      exact JR.stays s5 t2 ⟨rfl, World.putObj_heap_same (Array.getElem?_eq_some_iff.1 hrec3).1⟩
    | ret => exact leave _ q2
    | exit id => exact leave _ q2
    | goto t => exact leave _ q2
    | panic ch => exact q2.elim
    | outgrown => exact q2.elim
  | ret => exact q.elim
  | exit id => exact q.elim
  | goto t => exact q.elim
  | panic ch => exact q.elim
  | outgrown => exact q.elim

/-- Lent objects, by their places in the list. -/
def inv (ι : List Nat) (l j : Nat) : Prop := ∃ i, j = i + 1 ∧ ι[i]? = some l
theorem Sim.free {g : G} {w : World} (hs : Sim g w S) (o : Obj) (ho : o.isCells = false) : Sim g (w.alloc o) S ∧ Le g w g (w.alloc o) := by
  have hle : Le g w g (w.alloc o) := ⟨fun a v h => ⟨(cell_same (heap_alloc_lt (cell_block h.1))).trans h.1, h.2.1, h.2.2⟩, fun _ _ h => h, fun _ n h e => ⟨n, h, e, .inr ⟨rfl, rfl⟩⟩⟩
  refine ⟨⟨fun l ob h => (hs.obs l ob h).keep hle ⟨by simp, rfl, rfl, rfl⟩ (fun b hb => ⟨heap_alloc_lt (hs.own b l hb).2, rfl, hb⟩) (fun n h e => e) (fun e1 e2 => ⟨e1, e2⟩), hs.noEta, hs.noRow, fun b l e => ?_, fun b h => hs.lim b ?_⟩, hle⟩
  · have := hs.own b l e
    rw [World.size_alloc]; omega
  · rw [World.size_alloc] at h; omega

/-- The loop over a function. -/
theorem AWP.rangeFunc {gop : Operand} {ps : Array Tmp} {assign body : Code} {f : FuncId} {ca ds : List D} {Sb : List Ob} {xs : List (List D)} (ι : List Nat) (O : Nat → List Ob) (Left : Code → List Ob → Prop)
    (hg : ev tm gop = .fn (.func f) [] ca) (hcf : CF P f) (hI : Iter P f ds Sb xs) (hnd : ι.Nodup) (hsl : Sb.length = ι.length)
    (hSb : ∀ (j : Nat) (ob : Ob), Sb[j]? = some ob → ∃ l as bs, ι[j]? = some l ∧ S[l]? = some (.box as) ∧ ob = .box bs ∧ as.length = bs.length ∧ ∀ (i : Nat) (x y : D), as[i]? = some x → bs[i]? = some y → Ren (inv ι) (fun _ _ => False) x y)
    (hargs : RenAll (inv ι) (fun _ _ => False) ca ds) (hO : lend ι S = O 0)
    (hps : ∀ x ∈ xs, x.length = ps.size) (hlf : ∀ x ∈ xs, ∀ d ∈ x, LF d) (hpb : ∀ p ∈ ps, p < N) (hlen : ∀ k, (O k).length = S.length) (hun : ∀ k, ∀ ob ∈ O k, ObUn S.length ob)
    (hna : nr assign = true) (hnb : nr body = true)
    (round : ∀ k x, xs[k]? = some x → AWP P N assign (Then (fun tm1 S1 => AWP P N body (RQ O Left k) tm1 S1) (fun _ _ _ => False)) (putPs ps.toList x tm) (O k))
    (done : Q .normal tm (O xs.length)) (stop : ∀ c S', Left c S' → S.length ≤ S'.length ∧ AWP P N c Q tm S') : AWP P N (.rangeFunc gop ps assign body) Q tm S := by
  intro ro hro g a w st
  have hro0 : ro = none := by
    cases ro with
    | none => rfl
    | some l => have := hro rfl; simp [nr] at this
  subst hro0
  have rf := st.ev gop
  rw [hg] at rf
  generalize hvf : a.eval gop = vf at rf
  cases rf with
  | fn hs0 hs1 hrep0 hrep1 =>
    rename_i vfi vca
    have hvfi : vfi = #[] := by
      have : vfi.size = 0 := by simpa using hs0
      exact Array.eq_empty_of_size_eq_zero this
    subst hvfi
    refine wpIn_rangeFunc (F := wideR none) ?_
    intro fnid _
    obtain ⟨rc, hrc⟩ : ∃ rc : LoopState → Option Code → Loop, rc = fun st pe => { state := st, pending := pe, fn := fnid, tmps := a.tmps, params := ps, assign, body, defers := w.heap.size } := ⟨_, rfl⟩
    obtain ⟨ws, hws⟩ : ∃ ws, ws = (w.alloc (.deferred (some []))).alloc (.loop (rc .ready none)) := ⟨_, rfl⟩
    have hsz : ws.heap.size = w.heap.size + 2 := by rw [hws]; simp
    obtain ⟨sA, lA⟩ := st.sim.free (.deferred (some [])) rfl
    obtain ⟨sB, lB⟩ := sA.free (.loop (rc .ready none)) rfl
    rw [← hws] at sB lB
    have hle : Le g w g ws := lA.trans lB
    have hold : ∀ b, b < w.heap.size → ws.heap[b]? = w.heap[b]? := fun b hb => by
      rw [hws, heap_alloc_lt (by simp; omega), heap_alloc_lt hb]
    have hdblock : ws.heap[w.heap.size]? = some (.deferred (some [])) := by
      rw [hws, heap_alloc_lt (by simp)]; exact heap_alloc_eq
    have hrblock : ws.heap[w.heap.size + 1]? = some (.loop (rc .ready none)) := by
      rw [hws]
      have := heap_alloc_eq (w := w.alloc (.deferred (some []))) (o := .loop (rc .ready none))
      rwa [World.size_alloc] at this
    have hownNone : ∀ b, w.heap.size ≤ b → g.own b = none := fun b hb => by
      cases h : g.own b with
      | none => rfl
      | some l => exact absurd (st.sim.own b l h).2 (by omega)
    -- the caller, its boxes lent
    obtain ⟨ownC, hc1, hc2, hc3⟩ : ∃ ownC : Nat → Option Nat, (∀ b l, g.own b = some l → l ∉ ι → ownC b = some l) ∧ (∀ b l, g.own b = some l → l ∈ ι → ownC b = none) ∧ (∀ b, g.own b = none → ownC b = none) := by
      refine ⟨fun b => (g.own b).bind fun l => if l ∈ ι then none else some l, ?_, ?_, ?_⟩
      · intro b l h hl; simp [h, hl]
      · intro b l h hl; simp [h, hl]
      · intro b h; simp [h]
    have hcs : ∀ b l, ownC b = some l → g.own b = some l ∧ l ∉ ι := fun b l h => by
      cases e : g.own b with
      | none => rw [hc3 b e] at h; cases h
      | some l' =>
        by_cases hl : l' ∈ ι
        · rw [hc2 b l' e hl] at h; cases h
        · rw [hc1 b l' e hl] at h; cases h; exact ⟨rfl, hl⟩
    have hleC : Le g ws { g with own := ownC } ws := ⟨fun _ _ h => h, fun _ _ h => h, fun _ n h e => ⟨n, h, e, .inr ⟨rfl, rfl⟩⟩⟩
    have simC : Sim { g with own := ownC } ws (O 0) := by
      rw [← hO]
      refine ⟨fun l ob h => ?_, fun l h => sB.noEta l (by rw [lend_length] at h; exact h), fun l h => sB.noRow l (by rw [lend_length] at h; exact h), fun b l h => ?_, sB.lim⟩
      · have key : ob = .lent ∨ l ∉ ι ∧ S[l]? = some ob := by
          rcases lend_get ι S l ob h with ⟨_, h2⟩ | h2 | h2
          · exact .inl h2
          · exact .inr h2
          · exact .inl h2
        rcases key with rfl | ⟨hl, h2⟩
        · trivial
        · exact (sB.obs l ob h2).keep hleC (.refl ws) (fun b hb => ⟨rfl, rfl, hc1 b l hb hl⟩) (fun n h e => e) (fun e1 e2 => ⟨e1, e2⟩)
      · rw [lend_length]; exact sB.own b l (hcs b l h).1
    have mineC : Mine g ws ι (w.heap.size + 1) w.heap.size { g with own := ownC } (fun b => ownC b ≠ none ∨ b = w.heap.size + 1 ∨ b = w.heap.size) ws :=
      ⟨rfl, hleC, .refl ws, fun b _ h => hc3 b h, fun b l _ h hl => hc1 b l h hl, fun b l _ h hl => hc2 b l h hl, fun b => Iff.rfl, ⟨hownNone _ (by omega), by omega⟩, ⟨hownNone _ (Nat.le_refl _), by omega⟩, by omega, hdblock⟩
    have hbasew : g.base ≤ ws.heap.size := by have := st.based; omega
    have hY : Yields P (w.heap.size + 1) (JR g ws ι (w.heap.size + 1) w.heap.size rc O Left) xs := by
      rw [hrc]
      exact yields_of (N := N) (tm := tm) hps hlf hpb st.size (fun i => (st.slots i).mono hle) hbasew S.length hlen hun hna hnb round
    have stC : Stays (JR g ws ι (w.heap.size + 1) w.heap.size rc O Left) (some 0) g.lim (fun b => ownC b ≠ none ∨ b = w.heap.size + 1 ∨ b = w.heap.size) ws :=
      JR.stays (g := { g with own := ownC }) simC mineC ⟨rfl, hrblock⟩
    -- the iterator's ghost
    obtain ⟨gi, hgi⟩ : ∃ gi : G, gi = { eta := fun j => match j with | 0 => none | i + 1 => (ι[i]?).bind g.eta, row := fun _ => none, lim := g.lim, own := fun b => if b = w.heap.size + 1 ∨ b = w.heap.size then some 0 else (g.own b).map fun l => (idx l ι 1).getD 0, base := 0 } := ⟨_, rfl⟩
    have hgiE : ∀ i l, ι[i]? = some l → gi.eta (i + 1) = g.eta l := fun i l h => by rw [hgi]; simp [h]
    have hgiO : ∀ b i l, g.own b = some l → ι[i]? = some l → gi.own b = some (i + 1) := fun b i l h hi => by
      have hb := (st.sim.own b l h).2
      rw [hgi]
      simp only
      rw [if_neg (by omega), h, Option.map_some, idx_of hnd hi, Option.getD_some, Nat.add_comm]
    have hgiO0 : ∀ b, ownC b ≠ none ∨ b = w.heap.size + 1 ∨ b = w.heap.size → gi.own b = some 0 := fun b h => by
      rw [hgi]
      simp only
      by_cases c : b = w.heap.size + 1 ∨ b = w.heap.size
      · rw [if_pos c]
      · rw [if_neg c]
        rcases h with h | h
        · cases e : ownC b with
          | none => exact absurd e h
          | some l =>
            obtain ⟨e1, e2⟩ := hcs b l e
            rw [e1, Option.map_some]
            have : idx l ι 1 = none := by
              cases e3 : idx l ι 1 with
              | none => rfl
              | some j => exact absurd (List.mem_of_getElem? (idx_some e3).2) e2
            rw [this]; rfl
        · exact absurd h c
    have hgiN : ∀ b, b ≠ w.heap.size + 1 → b ≠ w.heap.size → g.own b = none → gi.own b = none := fun b h1 h2 h => by
      rw [hgi]
      simp only
      rw [if_neg (by omega), h]; rfl
    have hrepI : ∀ {v : Value} {d d' : D}, Ren (inv ι) (fun _ _ => False) d d' → Rep g ws v d → Rep gi ws v d' := fun {v d d'} h r =>
      Ren.rep (g := g) (g' := gi) (by rw [hgi]) (fun l l' ⟨i, e, hi⟩ b hb => by subst e; rw [hgiE i l hi]; exact hb) (fun _ _ h => h.elim) h r
    have simI : Sim gi ws (.seen (JR g ws ι (w.heap.size + 1) w.heap.size rc O Left) (some 0) :: Sb) := by
      refine ⟨?_, ?_, ?_, ?_, ?_⟩
      · intro j ob h
        cases j with
        | zero =>
          simp only [List.getElem?_cons_zero, Option.some.injEq] at h
          subst h
          exact ⟨_, fun b hb => hgiO0 b hb, by rw [hgi]; exact stC⟩
        | succ j =>
          simp only [List.getElem?_cons_succ] at h
          obtain ⟨l, as, bs, e1, e2, rfl, e3, e4⟩ := hSb j ob h
          obtain ⟨b, c, T, k1, k2, k3, k4, k5, k6⟩ := sB.obs l _ e2
          refine ⟨b, c, T, by rw [hgiE j l e1]; exact k1, hgiO b j l k2 e1, k3, by omega, by rw [hgi]; exact k5, fun i v d h1 h2 => ?_⟩
          obtain ⟨x, hx⟩ := get_pair e3 h2
          exact hrepI (e4 i x d hx h2) (k6 i v x h1 hx)
      · intro j h
        rw [List.length_cons] at h
        cases j with
        | zero => omega
        | succ i => rw [hgi]; simp only; rw [List.getElem?_eq_none (by omega)]; rfl
      · intro j h; rw [hgi]
      · intro b j h
        rw [hgi] at h
        simp only at h
        rw [List.length_cons]
        split at h
        · rename_i c
          cases h
          exact ⟨by omega, by omega⟩
        · rw [Option.map_eq_some_iff] at h
          obtain ⟨l, h1, h2⟩ := h
          have := (sB.own b l h1).2
          refine ⟨?_, this⟩
          cases e3 : idx l ι 1 with
          | none => rw [e3] at h2; subst h2; simp
          | some j' =>
            rw [e3] at h2
            simp only [Option.getD_some] at h2
            subst h2
            have h4 := idx_some e3
            have := (List.getElem?_eq_some_iff.1 h4.2).1
            omega
      · intro b h; rw [hgi]; exact sB.lim b h
    refine ⟨w.heap.size + 1, [{ target := .collected w.heap.size, args := #[] }], ws, { target := .fn (.func f) vca, args := #[] ++ #[.func (.yield (w.heap.size + 1)) #[] #[]] }, ws, f, #[.func (.yield (w.heap.size + 1)) #[] #[]] ++ vca, ws, ?_, ?_, fun _ _ => trivial, ?_, depth_wide, ?_⟩
    · rw [hws, hrc]; exact run_enterLoop_outer _ _ _ _ _
    · have e0 : a.eval (.const (.func (.yield (w.heap.size + 1)) #[] #[])) = .func (.yield (w.heap.size + 1)) #[] #[] := rfl
      simp [resolve, hvf, e0, Deferred.ofValue]
    · obtain ⟨fn, hfn, hname, hbody⟩ := hcf
      have hname' : ¬ fn.name = "runtime.NumGoroutine" := by simpa using hname
      have hbody' : ¬ fn.body = none := by intro e; rw [e] at hbody; cases hbody
      simp [invoke, callFunc, hfn, hname', hbody']
    · show CallsIn Fence.wide 0 P f _ ws _
      rw [callsIn_wide]
      have hvs : (#[Value.func (.yield (w.heap.size + 1)) #[] #[]] ++ vca).size = ds.length + 1 := by
        have := hargs.length
        simp; omega
      refine (hI _ _ hY gi ws _ simI hvs ?_).mono ?_
      · intro i v d h1 h2
        cases i with
        | zero =>
          rw [Array.getElem?_append_left (by simp)] at h1
          simp at h1 h2
          subst h1; subst h2
          exact .val _
        | succ i =>
          rw [Array.getElem?_append_right (by simp)] at h1
          simp only [List.getElem?_cons_succ] at h2
          simp at h1
          obtain ⟨x, hx⟩ := get_pair hargs.length h2
          exact hrepI (hargs.get i x d hx h2) ((hrep1 i v x h1 hx).mono hle)
      · rintro e w3 ⟨v, g', k', S', rfl, hk', hs3, hl3⟩
        obtain ⟨B, hB, hst3⟩ := hs3.obs 0 _ rfl
        obtain ⟨g2, S2, hlim2, hs2, hm2, hph⟩ := hst3 g'.lim w3 (.refl w3) (fun _ _ => ⟨rfl, rfl⟩) (fun _ _ h => h) hs3.lim
        -- the caller again, with all that is its own
        obtain ⟨ownF, hf1, hf2⟩ : ∃ ownF : Nat → Option Nat, (∀ b l, b < w.heap.size → g.own b = some l → l ∈ ι → ownF b = some l) ∧ (∀ b, (∀ l, b < w.heap.size → g.own b = some l → l ∉ ι) → ownF b = g2.own b) := by
          classical
          refine ⟨fun b => if ∃ l, b < w.heap.size ∧ g.own b = some l ∧ l ∈ ι then g.own b else g2.own b, ?_, ?_⟩
          · intro b l h1 h2 h3; simp only; rw [if_pos ⟨l, h1, h2, h3⟩]; exact h2
          · intro b h; simp only; rw [if_neg (by rintro ⟨l, h1, h2, h3⟩; exact h l h1 h2 h3)]
        have hwsw : ∀ b, b < w.heap.size → b < ws.heap.size := fun b h => by omega
        have hF : ∀ b l, g2.own b = some l → ownF b = some l := fun b l h => by
          rw [hf2 b (fun l' h1 h2 h3 => by rw [hm2.lent b l' (hwsw b h1) h2 h3] at h; cases h)]; exact h
        have hrec3 : ∃ r, w3.heap[w.heap.size + 1]? = some (.loop r) ∧ r.state ≠ .busy ∧ ∀ c, r.pending = some c → ∃ S', S2 = S' ∧ Left c S' := by
          rcases hk' with rfl | rfl
          · obtain ⟨h1, h2⟩ := hph
            exact ⟨_, h2, by rw [hrc]; simp, fun c e => by rw [hrc] at e; cases e⟩
          · obtain ⟨c, h1, h2⟩ := hph
            refine ⟨_, h2, by rw [hrc]; simp, fun c' e => ?_⟩
            rw [hrc] at e
            cases e
            exact ⟨S2, rfl, h1⟩
        obtain ⟨r, hr1, hr2, hr4⟩ := hrec3
        have hro2 : g2.own (w.heap.size + 1) = none := hm2.free _ (by omega) (hownNone _ (by omega))
        have hrd2 : g2.own w.heap.size = none := hm2.free _ (by omega) (hownNone _ (Nat.le_refl _))
        obtain ⟨s4, l4⟩ := putFree hs2 (.loop { r with state := .exhausted }) hr1 rfl hro2
        have leF : Le g2 (w3.putObj (w.heap.size + 1) (.loop { r with state := .exhausted })) { g2 with own := ownF } (w3.putObj (w.heap.size + 1) (.loop { r with state := .exhausted })) := ⟨fun _ _ h => h, fun _ _ h => h, fun _ n h e => ⟨n, h, e, .inr ⟨rfl, rfl⟩⟩⟩
        have hlen2 : S.length ≤ S2.length := by
          rcases hk' with rfl | rfl
          · rw [hph.1, hlen]; exact Nat.le_refl _
          · obtain ⟨c, h1, h2⟩ := hph; exact (stop c _ h1).1
        have s5 : Sim { g2 with own := ownF } (w3.putObj (w.heap.size + 1) (.loop { r with state := .exhausted })) S2 := by
          refine ⟨fun l ob h => (s4.obs l ob h).keep leF (.refl _) (fun b hb => ⟨rfl, rfl, hF b l hb⟩) (fun n h e => e) (fun e1 e2 => ⟨e1, e2⟩), s4.noEta, s4.noRow, fun b l h => ?_, s4.lim⟩
          by_cases c : ∃ l', b < w.heap.size ∧ g.own b = some l' ∧ l' ∈ ι
          · obtain ⟨l', c1, c2, c3⟩ := c
            have := hf1 b l' c1 c2 c3
            have h : ownF b = some l := h
            rw [this] at h; cases h
            have h6 := (st.sim.own b l c2).1
            refine ⟨Nat.lt_of_lt_of_le h6 hlen2, ?_⟩
            have := hm2.ext.size
            simp only [World.putObj_size]; omega
          · have := hf2 b (fun l' h1 h2 h3 => c ⟨l', h1, h2, h3⟩)
            have h : ownF b = some l := h
            rw [this] at h
            exact s4.own b l h
        have hlater : Later g w { g2 with own := ownF } (w3.putObj (w.heap.size + 1) (.loop { r with state := .exhausted })) := by
          refine ⟨((hle.trans hm2.le).trans l4).trans leF, ⟨?_, ?_, ?_, ?_, ?_, ?_, hm2.base⟩⟩
          · have := hm2.ext.size; simp only [World.putObj_size]; omega
          · exact hm2.ext.os.trans (by rw [hws]; rfl)
          · exact hm2.ext.tape.trans (by rw [hws]; rfl)
          · exact hm2.ext.output.trans (by rw [hws]; rfl)
          · intro b hb ho
            obtain ⟨e1, e2, e3⟩ := hl3.2.old b (hwsw b hb) (hgiN b (by omega) (by omega) ho)
            refine ⟨(World.putObj_heap_other (by omega)).trans (e1.trans (hold b hb)), ?_, ?_⟩
            · show g2.lim b = g.lim b
              rw [hlim2, e2, hgi]
            · show ownF b = none
              rw [hf2 b (fun l' h1 h2 h3 => by rw [ho] at h2; cases h2)]
              exact hm2.free b (hwsw b hb) ho
          · intro b l hb ho
            show ownF b = some l
            by_cases hl : l ∈ ι
            · exact hf1 b l hb ho hl
            · exact hF b l (hm2.kept b l (hwsw b hb) ho hl)
        have stF : St N { g2 with own := ownF } tm S2 { a with defers := [{ target := .collected w.heap.size, args := #[] }] ++ a.defers } (w3.putObj (w.heap.size + 1) (.loop { r with state := .exhausted })) := by
          have st' := st.later hlater s5
          refine ⟨st'.size, st'.based, ?_, ?_, st'.slots, s5⟩
          · show ({ target := .collected w.heap.size, args := #[] } :: a.defers).Nodup
            refine List.nodup_cons.2 ⟨fun hm => ?_, st.once⟩
            obtain ⟨b, e, q1, q2, q3⟩ := st.defers _ hm
            have : w.heap.size = b := by simpa using e
            subst this
            have := (Array.getElem?_eq_some_iff.1 q3).1
            omega
          · intro d hd
            rcases List.mem_cons.1 hd with rfl | hd
            · refine ⟨w.heap.size, rfl, ?_, ?_, ?_⟩
              · show g2.base ≤ _
                rw [hm2.base]; exact st.based
              · show ownF _ = none
                rw [hf2 _ (fun l' h1 _ _ => absurd h1 (Nat.lt_irrefl _))]; exact hrd2
              · exact (World.putObj_heap_other (by omega)).trans hm2.dblock
            · exact st'.defers d hd
        have hend := run_endLoop (P := P) hr1 hr2
        obtain ⟨w4, hw4⟩ : ∃ w4, w4 = w3.putObj (w.heap.size + 1) (.loop { r with state := .exhausted }) := ⟨_, rfl⟩
        rw [← hw4] at hend hlater stF
        refine ⟨r.pending, w4, hend, ?_⟩
        cases hp : r.pending with
        | none =>
          have hS2 : S2 = O xs.length := by
            rcases hk' with rfl | rfl
            · exact hph.1
            · obtain ⟨c, h1, h2⟩ := hph
              rw [hr1] at h2
              cases h2
              rw [hrc] at hp; cases hp
          subst hS2
          exact Post.later hlater ⟨_, _, _, done, stF, Later.refl _ _⟩
        | some c =>
          obtain ⟨S', rfl, hc⟩ := hr4 c hp
          exact Code.wpIn_mono (fun e a2 w2 k => Post.later hlater k) ((stop c _ hc).2 none (fun h => by cases h) _ _ _ stF)
end Go.Abs
