/- Calls. -/
import Derived.Test.YtanfmpkjcoolmaaAbsH
set_option linter.unusedVariables false
set_option linter.unusedSimpArgs false
namespace Go.Abs
variable {P : Program} {N : Nat} {ops : Array Oper} {l : List Oper} {Q : Exit → Tm → List Ob → Prop} {tm : Tm} {S : List Ob}

/-- What a call comes to. -/
def Does (P : Program) (f : FuncId) (ds : List D) (S : List Ob) (r : D) (S' : List Ob) : Prop :=
  ∀ (g : G) (w : World) (vs : Array Value), Sim g w S → vs.size = ds.length → (∀ (i : Nat) (v : Value) (d : D), vs[i]? = some v → ds[i]? = some d → Rep g w v d) →
    Calls P f vs w (fun e w' => ∃ v g', e = .returned v ∧ Rep g' w' v r ∧ Sim g' w' S' ∧ Later g w g' w')

/-- Nothing of it names an object. -/
inductive LF : D → Prop
  | any : LF .any
  | val (v : Value) : LF (.val v)
  | sl {nl : Option Bool} {xs : List (List D)} {c : Cap} (h : ∀ x ∈ xs, ∀ d ∈ x, LF d) (hc : c = .ro ∨ c = .full) : LF (.sl nl xs c)
  | rp {cs : List D} (h : ∀ d ∈ cs, LF d) : LF (.rp cs)
  | agg {cs : List D} (h : ∀ d ∈ cs, LF d) : LF (.agg cs)
  | tup {cs : List D} (h : ∀ d ∈ cs, LF d) : LF (.tup cs)
  | fn {f : Fn} {a b : List D} (h : ∀ d ∈ a, LF d) (h' : ∀ d ∈ b, LF d) : LF (.fn f a b)

/-- The same, its objects named otherwise (and perhaps less of it). -/
inductive Ren (ρ σ : Nat → Nat → Prop) : D → D → Prop
  | lf {d : D} (h : LF d) : Ren ρ σ d d
  | any {d : D} : Ren ρ σ d .any
  | bp {l l' o : Nat} (h : ρ l l') : Ren ρ σ (.bp l o) (.bp l' o)
  | bs {l l' o n : Nat} (h : ρ l l') : Ren ρ σ (.bs l o n) (.bs l' o n)
  | own {nl : Option Bool} {xs : List (List D)} {l l' : Nat} (h : ∀ x ∈ xs, ∀ d ∈ x, LF d) (hs : σ l l') : Ren ρ σ (.sl nl xs (.own l)) (.sl none xs (.own l'))
  | ro {nl : Option Bool} {xs : List (List D)} {c : Cap} (h : ∀ x ∈ xs, ∀ d ∈ x, LF d) : Ren ρ σ (.sl nl xs c) (.sl none xs .ro)
  | nl {nl : Option Bool} {xs : List (List D)} {c : Cap} (h : ∀ x ∈ xs, ∀ d ∈ x, LF d) (hc : c = .ro ∨ c = .full) : Ren ρ σ (.sl nl xs c) (.sl none xs c)
  | agg {as bs : List D} (hl : as.length = bs.length) (h : ∀ (i : Nat) (x y : D), as[i]? = some x → bs[i]? = some y → Ren ρ σ x y) : Ren ρ σ (.agg as) (.agg bs)
  | tup {as bs : List D} (hl : as.length = bs.length) (h : ∀ (i : Nat) (x y : D), as[i]? = some x → bs[i]? = some y → Ren ρ σ x y) : Ren ρ σ (.tup as) (.tup bs)
  | fn {f : Fn} {as bs as' bs' : List D} (hl : as.length = bs.length) (hl' : as'.length = bs'.length) (h : ∀ (i : Nat) (x y : D), as[i]? = some x → bs[i]? = some y → Ren ρ σ x y)
      (h' : ∀ (i : Nat) (x y : D), as'[i]? = some x → bs'[i]? = some y → Ren ρ σ x y) : Ren ρ σ (.fn f as as') (.fn f bs bs')

theorem get_pair {α β : Type} {xs : List α} {ys : List β} (h : xs.length = ys.length) {i : Nat} {y : β} (hy : ys[i]? = some y) : ∃ x, xs[i]? = some x := by
  have := (List.getElem?_eq_some_iff.1 hy).1
  exact ⟨xs[i], List.getElem?_eq_getElem (by omega)⟩

theorem Rep.lf {g g' : G} {w : World} {v : Value} {d : D} (hlim : g'.lim = g.lim) (r : Rep g w v d) : LF d → Rep g' w v d := by
  induction r with
  | any v => exact fun _ => .any v
  | val v => exact fun _ => .val v
  | sl st f hn hcap hnone hnl hst hcell hrep hc ih =>
    intro h
    cases h with
    | sl h hc' =>
      refine .sl st f hn hcap hnone hnl hst (fun i x hx j d hd => ?_) (fun i x hx j d hd => ih i x hx j d hd (h x (List.mem_of_getElem? hx) d (List.mem_of_getElem? hd))) ?_
      · obtain ⟨ad, e, k⟩ := hcell i x hx j d hd
        exact ⟨ad, e, k.1, by rw [hlim]; exact k.2.1, k.2.2⟩
      · rcases hc' with rfl | rfl
        · trivial
        · exact hc
  | rp f hcell hrep ih =>
    intro h
    cases h with
    | rp h => exact .rp f (fun j d hd => let k := hcell j d hd; ⟨k.1, by rw [hlim]; exact k.2.1, k.2.2⟩) (fun j d hd => ih j d hd (h d (List.mem_of_getElem? hd)))
  | bp e => intro h; cases h
  | bs e hc => intro h; cases h
  | agg hs hrep ih => intro h; cases h with | agg h => exact .agg hs (fun i v d h1 h2 => ih i v d h1 h2 (h d (List.mem_of_getElem? h2)))
  | tup hs hrep ih => intro h; cases h with | tup h => exact .tup hs (fun i v d h1 h2 => ih i v d h1 h2 (h d (List.mem_of_getElem? h2)))
  | fn hs hs' hrep hrep' ih ih' => intro h; cases h with | fn h h' => exact .fn hs hs' (fun i v d h1 h2 => ih i v d h1 h2 (h d (List.mem_of_getElem? h2))) (fun i v d h1 h2 => ih' i v d h1 h2 (h' d (List.mem_of_getElem? h2)))

theorem Ren.rep {ρ σ : Nat → Nat → Prop} {g g' : G} {w : World} (hlim : g'.lim = g.lim) (hρ : ∀ l l', ρ l l' → ∀ b, g.eta l = some b → g'.eta l' = some b) (hσ : ∀ l l', σ l l' → ∀ x, g.row l = some x → g'.row l' = some x)
    {d d' : D} (h : Ren ρ σ d d') : ∀ {v : Value}, Rep g w v d → Rep g' w v d' := by
  induction h with
  | lf h => exact fun r => r.lf hlim h
  | any => exact fun _ => .any _
  | bp h => intro v r; cases r with | bp e => exact .bp (hρ _ _ h _ e)
  | bs h => intro v r; cases r with | bs e hc => exact .bs (hρ _ _ h _ e) hc
  | own h hs =>
    intro v r
    cases r with
    | sl st f hn hcap hnone hnl hst hcell hrep hc =>
      refine .sl st f hn hcap hnone (fun b e => by cases e) hst (fun i x hx j d hd => ?_) (fun i x hx j d hd => (hrep i x hx j d hd).lf hlim (h x (List.mem_of_getElem? hx) d (List.mem_of_getElem? hd))) ?_
      · obtain ⟨ad, e, k⟩ := hcell i x hx j d hd
        exact ⟨ad, e, k.1, by rw [hlim]; exact k.2.1, k.2.2⟩
      · obtain ⟨m, x, e, h1, h2⟩ := hc
        exact ⟨m, x, hσ _ _ hs _ e, h1, h2⟩
  | ro h =>
    intro v r
    cases r with
    | sl st f hn hcap hnone hnl hst hcell hrep hc =>
      refine .sl st f hn hcap hnone (fun b e => by cases e) hst (fun i x hx j d hd => ?_) (fun i x hx j d hd => (hrep i x hx j d hd).lf hlim (h x (List.mem_of_getElem? hx) d (List.mem_of_getElem? hd))) trivial
      obtain ⟨ad, e, k⟩ := hcell i x hx j d hd
      exact ⟨ad, e, k.1, by rw [hlim]; exact k.2.1, k.2.2⟩
  | nl h hc' =>
    intro v r
    cases r with
    | sl st f hn hcap hnone hnl hst hcell hrep hc =>
      refine .sl st f hn hcap hnone (fun b e => by cases e) hst (fun i x hx j d hd => ?_) (fun i x hx j d hd => (hrep i x hx j d hd).lf hlim (h x (List.mem_of_getElem? hx) d (List.mem_of_getElem? hd))) ?_
      · obtain ⟨ad, e, k⟩ := hcell i x hx j d hd
        exact ⟨ad, e, k.1, by rw [hlim]; exact k.2.1, k.2.2⟩
      · rcases hc' with rfl | rfl
        · trivial
        · exact hc
  | agg hl h ih =>
    intro v r
    cases r with
    | agg hs hrep => exact .agg (by omega) (fun i v d h1 h2 => by obtain ⟨x, hx⟩ := get_pair hl h2; exact ih i x d hx h2 (hrep i v x h1 hx))
  | tup hl h ih =>
    intro v r
    cases r with
    | tup hs hrep => exact .tup (by omega) (fun i v d h1 h2 => by obtain ⟨x, hx⟩ := get_pair hl h2; exact ih i x d hx h2 (hrep i v x h1 hx))
  | fn hl hl' h h' ih ih' =>
    intro v r
    cases r with
    | fn hs hs' hrep hrep' =>
      exact .fn (by omega) (by omega) (fun i v d h1 h2 => by obtain ⟨x, hx⟩ := get_pair hl h2; exact ih i x d hx h2 (hrep i v x h1 hx))
        (fun i v d h1 h2 => by obtain ⟨x, hx⟩ := get_pair hl' h2; exact ih' i x d hx h2 (hrep' i v x h1 hx))

inductive ObRen (ρ σ : Nat → Nat → Prop) : Ob → Ob → Prop
  | box {as bs : List D} (hl : as.length = bs.length) (h : ∀ (i : Nat) (x y : D), as[i]? = some x → bs[i]? = some y → Ren ρ σ x y) : ObRen ρ σ (.box as) (.box bs)
  | row {n sz : Nat} : ObRen ρ σ (.row n sz) (.row n sz)
  | seen {J : Option Nat → (Nat → Nat) → (Nat → Prop) → World → Prop} {k : Option Nat} : ObRen ρ σ (.seen J k) (.seen J k)

def idx (l : Nat) : List Nat → Nat → Option Nat
  | [], _ => none
  | x :: xs, k => if x = l then some k else idx l xs (k + 1)
theorem idx_some {l : Nat} : ∀ {ι : List Nat} {k j : Nat}, idx l ι k = some j → k ≤ j ∧ ι[j - k]? = some l
  | [], k, j, h => by simp [idx] at h
  | x :: xs, k, j, h => by
    simp only [idx] at h
    split at h
    · rename_i e; cases h; subst e; simp
    · obtain ⟨h1, h2⟩ := idx_some h
      refine ⟨by omega, ?_⟩
      rw [show j - k = (j - (k + 1)) + 1 by omega]
      exact h2
theorem idx_of {l : Nat} : ∀ {ι : List Nat} (hnd : ι.Nodup) {k j : Nat}, ι[j]? = some l → idx l ι k = some (k + j)
  | [], _, k, j, h => by simp at h
  | x :: xs, hnd, k, j, h => by
    simp only [idx]
    cases j with
    | zero => simp only [List.getElem?_cons_zero, Option.some.injEq] at h; rw [if_pos h]; rfl
    | succ j =>
      have hm : xs[j]? = some l := by simpa using h
      have : x ≠ l := by
        rintro rfl
        exact (List.nodup_cons.1 hnd).1 (List.mem_of_getElem? hm)
      rw [if_neg this, idx_of (List.nodup_cons.1 hnd).2 hm]
      congr 1; omega
theorem idx_none {l : Nat} {ι : List Nat} (h : l ∉ ι) : idx l ι 0 = none := by
  cases e : idx l ι 0 with
  | none => rfl
  | some j => exact absurd (List.mem_of_getElem? (idx_some e).2) h

def G.sub (g : G) (ι : List Nat) : G :=
  { eta := fun j => (ι[j]?).bind g.eta, row := fun j => (ι[j]?).bind g.row, lim := g.lim, own := fun b => (g.own b).bind fun l => idx l ι 0, base := g.base }

theorem sub_own {g : G} {ι : List Nat} (hnd : ι.Nodup) {b l j : Nat} (h : g.own b = some l) (hj : ι[j]? = some l) : (g.sub ι).own b = some j := by
  simp only [G.sub, h, Option.bind_some]
  rw [idx_of hnd hj, Nat.zero_add]

def back (ι : List Nat) (l j : Nat) : Prop := ι[j]? = some l

theorem back_rep {g : G} {w : World} {ι : List Nat} {d d' : D} (h : Ren (back ι) (back ι) d d') {v : Value} (r : Rep g w v d) : Rep (g.sub ι) w v d' :=
  Ren.rep (g := g) (g' := g.sub ι) rfl (fun l l' e b hb => by show (ι[l']?).bind g.eta = some b; rw [show ι[l']? = some l from e]; exact hb)
    (fun l l' e b hb => by show (ι[l']?).bind g.row = some b; rw [show ι[l']? = some l from e]; exact hb) h r

theorem Sim.sub {g : G} {w : World} (hs : Sim g w S) {ι : List Nat} (hnd : ι.Nodup) {S' : List Ob} (hlen : S'.length = ι.length)
    (h : ∀ (j : Nat) (ob' : Ob), S'[j]? = some ob' → ∃ l ob, ι[j]? = some l ∧ S[l]? = some ob ∧ ObRen (back ι) (back ι) ob ob') : Sim (g.sub ι) w S' := by
  refine ⟨?_, ?_, ?_, ?_, hs.lim⟩
  · intro j ob' hj
    obtain ⟨l, ob, hι, hl, hr⟩ := h j ob' hj
    have hok := hs.obs l ob hl
    cases hr with
    | box hlen' hren =>
      obtain ⟨b, c, T, he, ho, hh, hsz, hlim, hrep⟩ := hok
      refine ⟨b, c, T, by simp only [G.sub, hι, Option.bind_some]; exact he, sub_own hnd ho hι, hh, by omega, hlim, ?_⟩
      intro i v d h1 h2
      obtain ⟨x, hx⟩ := get_pair hlen' h2
      exact back_rep (hren i x d hx h2) (hrep i v x h1 hx)
    | row =>
      obtain ⟨a, cap, e, h1, h2, h3⟩ := hok
      refine ⟨a, cap, by simp only [G.sub, hι, Option.bind_some]; exact e, h1, h2, ?_⟩
      rcases h3 with h3 | ⟨b, off, c, T, e', ho, hh, hsz, hlim⟩
      · exact .inl h3
      · exact .inr ⟨b, off, c, T, e', sub_own hnd ho hι, hh, hsz, hlim⟩
    | seen =>
      obtain ⟨B, h1, h2⟩ := hok
      exact ⟨B, fun b kb => sub_own hnd (h1 b kb) hι, h2⟩
  · intro j hj
    simp only [G.sub]; rw [List.getElem?_eq_none (by omega)]; rfl
  · intro j hj
    simp only [G.sub]; rw [List.getElem?_eq_none (by omega)]; rfl
  · intro b j hb
    simp only [G.sub, Option.bind_eq_some_iff] at hb
    obtain ⟨l, h1, h2⟩ := hb
    have h3 := (idx_some h2).2
    refine ⟨?_, (hs.own b l h1).2⟩
    rw [hlen]
    exact (List.getElem?_eq_some_iff.1 h3).1

/-- The result variables. -/
inductive RV (P : Program) (tm : Tm) (S : List Ob) : ResultVar → D → Prop
  | tmp (t : Nat) : RV P tm S (.tmp t) (tm t)
  | cell {t : Nat} {T : TypeId} {sz : Nat} {ag : Bool} {cs : List D} (ht : TI P T sz ag) (h : (tm t).at S = some cs) (hsz : Nat.ble (bif ag then sz else 1) cs.length = true) : RV P tm S (.cell t T) (D.ofCells ag sz cs)
theorem RV.run {g : G} {a : Act} {w : World} (st : St N g tm S a w) {rv : ResultVar} {d : D} (h : RV P tm S rv d) :
    ∃ v, (match rv with | .tmp t => pure (a.tmps.getD t undef) | .cell x t => do loadVar t (← asAddr (a.tmps.getD x undef)) : Sem Value).run P w = .ok v w ∧ Rep g w v d := by
  cases h with
  | tmp t => exact ⟨_, rfl, st.slots t⟩
  | cell ht h hsz =>
    rename_i t T sz ag cs
    obtain ⟨ad, f, hv, hf⟩ := at_rep st.sim (st.slots t) h
    have hsz := Nat.le_of_ble_eq_true hsz
    cases ag with
    | true =>
      simp only [cond_true] at hsz
      refine ⟨.agg ((List.range sz).map f).toArray, ?_, ?_⟩
      · simp only [hv, asAddr, loadVar, Sem.run_bind, Sem.run_pure, Result.andThen_ok, ht.isAgg, ht.sizeOf, if_true]
        rw [run_loadCells w ad sz f (fun j hj => (hf j cs[j] (List.getElem?_eq_getElem (by omega))).1)]
        rfl
      · refine .agg (by simp; omega) ?_
        intro i v d h1 h2
        simp only [List.getElem?_toArray, List.getElem?_map, List.getElem?_range'] at h1
        simp only [List.getElem?_take] at h2
        split at h2
        · rename_i hi
          rw [List.getElem?_range hi] at h1
          simp only [Option.map_some, Option.some.injEq] at h1
          subst h1
          exact (hf i d h2).2
        · cases h2
    | false =>
      simp only [cond_false] at hsz
      have h0 : cs[0]? = some (cs.headD .any) := by cases cs with | nil => simp at hsz | cons c cs => rfl
      refine ⟨f 0, ?_, (hf 0 _ h0).2⟩
      have hc := (hf 0 _ h0).1
      have : ad.add 0 = ad := by simp [Addr.add]
      rw [this] at hc
      simp [hv, asAddr, loadVar, ht.isAgg, hc]

inductive RVs (P : Program) (tm : Tm) (S : List Ob) : List ResultVar → List D → Prop
  | nil : RVs P tm S [] []
  | cons {rv : ResultVar} {d : D} {rvs : List ResultVar} {ds : List D} (h : RV P tm S rv d) (t : RVs P tm S rvs ds) : RVs P tm S (rv :: rvs) (d :: ds)

def resD : List D → D
  | [d] => d
  | ds => .tup ds

theorem RVs.run {g : G} {a : Act} {w : World} (st : St N g tm S a w) {rvs : List ResultVar} {ds : List D} (h : RVs P tm S rvs ds) :
    ∃ vs : List Value, (rvs.mapM fun rv => (match rv with | .tmp t => pure (a.tmps.getD t undef) | .cell x t => do loadVar t (← asAddr (a.tmps.getD x undef)) : Sem Value)).run P w = .ok vs w ∧ vs.length = ds.length ∧
      ∀ (i : Nat) (v : Value) (d : D), vs[i]? = some v → ds[i]? = some d → Rep g w v d := by
  induction h with
  | nil => exact ⟨[], rfl, rfl, fun i v d h => by simp at h⟩
  | cons h t ih =>
    obtain ⟨v, hr, hrep⟩ := h.run st
    obtain ⟨vs, hrs, hl, hreps⟩ := ih
    refine ⟨v :: vs, ?_, by simp [hl], ?_⟩
    · rw [List.mapM_cons, Sem.run_bind, hr, Result.andThen_ok, Sem.run_bind, hrs, Result.andThen_ok]
      rfl
    · intro i u d h1 h2
      cases i with
      | zero => simp at h1 h2; subst h1; subst h2; exact hrep
      | succ i => exact hreps i u d (by simpa using h1) (by simpa using h2)

theorem results_rep {g : G} {a : Act} {w : World} (st : St N g tm S a w) {fn : Func} {rvs : List ResultVar} {ds : List D} (hf : fn.results = rvs.toArray) (h : RVs P tm S rvs ds) :
    ∃ v, (results fn a.tmps).run P w = .ok v w ∧ Rep g w v (resD ds) := by
  obtain ⟨vs, hr, hl, hrep⟩ := h.run st
  have hm : (fn.results.mapM fun rv => (match rv with | .tmp t => pure (a.tmps.getD t undef) | .cell x t => do loadVar t (← asAddr (a.tmps.getD x undef)) : Sem Value)).run P w = .ok vs.toArray w := by
    rw [hf, List.mapM_toArray, Sem.run_map, hr]
    rfl
  refine ⟨if h : vs.toArray.size = 1 then vs.toArray[0] else .tuple vs.toArray, ?_, ?_⟩
  · unfold results
    rw [Sem.run_bind]
    have := hm
    exact (congrArg (fun r => Result.andThen r _) this).trans rfl
  · match ds, vs, hl, hrep with
    | [], [], _, _ => exact .tup rfl (fun i v d h => by simp at h)
    | [d], [v], _, hrep => exact hrep 0 v d rfl rfl
    | d :: d' :: ds, v :: v' :: vs, hl, hrep =>
      simp only [List.length_cons] at hl
      rw [dif_neg (by simp)]
      exact .tup (by simpa using hl) (fun i u x h1 h2 => hrep i u x (by simpa using h1) h2)
theorem Later.sub {g0 g : G} {w0 w : World} (h : Later g0 w0 g w) {S0 : List Ob} (hs0 : Sim g0 w0 S0) {ι : List Nat} (hnd : ι.Nodup) (hid : ∀ j, j < S0.length → ι[j]? = some j) : Later g0 w0 (g.sub ι) w := by
  have heta : ∀ l b, g0.eta l = some b → l < S0.length := fun l b e => by
    rcases Nat.lt_or_ge l S0.length with h | h
    · exact h
    · rw [hs0.noEta l h] at e; cases e
  have hrow : ∀ l b, g0.row l = some b → l < S0.length := fun l b e => by
    rcases Nat.lt_or_ge l S0.length with h | h
    · exact h
    · rw [hs0.noRow l h] at e; cases e
  refine ⟨⟨h.1.cell, ?_, ?_⟩, ⟨h.2.size, h.2.os, h.2.tape, h.2.output, ?_, ?_, h.2.base⟩⟩
  · intro l b e
    show (ι[l]?).bind g.eta = some b
    rw [hid l (heta l b e)]
    exact h.1.eta l b e
  · intro l n x e
    obtain ⟨n', x', e', k⟩ := h.1.row l n x e
    exact ⟨n', x', by show (ι[l]?).bind g.row = some (n', x'); rw [hid l (hrow l _ e)]; exact e', k⟩
  · intro b hb ho
    obtain ⟨k1, k2, k3⟩ := h.2.old b hb ho
    exact ⟨k1, k2, by show (g.own b).bind _ = none; rw [k3]; rfl⟩
  · intro b l hb ho
    exact sub_own hnd (h.2.kept b l hb ho) (hid l (hs0.own b l ho).1)

/-- A function's end: its results, what has become of the objects, renamed. -/
def Fin (P : Program) (rvs : List ResultVar) (n : Nat) (r : D) (S' : List Ob) (e : Exit) (tm : Tm) (S : List Ob) : Prop :=
  (e = .normal ∨ e = .ret) ∧ ∃ ds ι, RVs P tm S rvs ds ∧ Ren (back ι) (back ι) (resD ds) r ∧ ι.Nodup ∧ (∀ j, j < n → ι[j]? = some j) ∧ S'.length = ι.length ∧
    ∀ (j : Nat) (ob' : Ob), S'[j]? = some ob' → ∃ l ob, ι[j]? = some l ∧ S[l]? = some ob ∧ ObRen (back ι) (back ι) ob ob'

theorem Le.rebase {g : G} {w : World} (n : Nat) : Le g w { g with base := n } w := ⟨fun _ _ h => h, fun _ _ h => h, fun _ n h e => ⟨n, h, e, .inr ⟨rfl, rfl⟩⟩⟩
theorem Sim.rebase {g : G} {w : World} (hs : Sim g w S) (n : Nat) : Sim { g with base := n } w S :=
  ⟨fun l ob h => (hs.obs l ob h).keep (Le.rebase n) (.refl w) (fun b ho => ⟨rfl, rfl, ho⟩) (fun n h e => e) (fun e1 e2 => ⟨e1, e2⟩), hs.noEta, hs.noRow, hs.own, hs.lim⟩
/-- A block that holds no cells and is no object's is turned. -/
theorem putFree {g : G} {w : World} (hs : Sim g w S) {b : Nat} {o : Obj} (o' : Obj) (hh : w.heap[b]? = some o) (ho : o.isCells = false) (hw : g.own b = none) : Sim g (w.putObj b o') S ∧ Le g w g (w.putObj b o') := by
  have hle : Le g w g (w.putObj b o') := by
    refine ⟨?_, fun _ _ h => h, fun _ n h e => ⟨n, h, e, .inr ⟨rfl, rfl⟩⟩⟩
    rintro a v ⟨k1, k2, k3⟩
    obtain ⟨o1, e1, e2⟩ := cells_of_cell k1
    have hne : a.block ≠ b := by intro e; rw [e, hh] at e1; cases e1; rw [ho] at e2; cases e2
    exact ⟨(cell_same (World.putObj_heap_other hne)).trans k1, k2, k3⟩
  refine ⟨⟨fun l ob h => (hs.obs l ob h).keep hle ⟨by simp, rfl, rfl, rfl⟩ ?_ (fun n h e => e) (fun e1 e2 => ⟨e1, e2⟩), hs.noEta, hs.noRow, fun b1 l e => by simpa using hs.own b1 l e, fun b1 h => hs.lim b1 (by simpa using h)⟩, hle⟩
  intro b1 ho1
  have : b1 ≠ b := by rintro rfl; rw [hw] at ho1; cases ho1
  exact ⟨World.putObj_heap_other this, rfl, ho1⟩
/-- The marks of loops over functions, when the function is left. -/
theorem St.leaves {g0 g : G} {w0 : World} {fn : Func} {R : Ending → World → Prop} : ∀ {a : Act} {w : World} (st : St N g tm S a w) (hl : Later g0 w0 g w) (hb : w0.heap.size ≤ g.base) (ds : List Deferred) (hd : a.defers = ds)
    (hR : ∀ w', St N g tm S { a with defers := [] } w' → Later g0 w0 g w' → ∃ v, (results fn a.tmps).run P w' = .ok v w' ∧ R (.returned v) w'), LeavesInM Fence.wide 0 P fn a.tmps R ds .returning w
  | a, w, st, hl, hb, [], hd, hR => by
    have st1 : St N g tm S { a with defers := [] } w := ⟨st.size, st.based, List.nodup_nil, (fun d h => by cases h), st.slots, st.sim⟩
    exact hR w st1 hl
  | a, w, st, hl, hb, d :: ds, hd, hR => by
    obtain ⟨b, e, h1, h2, h3⟩ := st.defers d (by rw [hd]; simp)
    obtain ⟨k1, k2⟩ := putFree st.sim (.deferred none) h3 rfl h2
    have hnd := st.once
    rw [hd] at hnd
    obtain ⟨hn1, hn2⟩ := List.nodup_cons.1 hnd
    have st1 : St N g tm S { a with defers := ds } (w.putObj b (.deferred none)) := by
      refine ⟨st.size, by simpa using st.based, hn2, ?_, fun i => (st.slots i).mono k2, k1⟩
      intro d' hd'
      obtain ⟨b', e', q1, q2, q3⟩ := st.defers d' (by rw [hd]; exact List.mem_cons_of_mem _ hd')
      have : b' ≠ b := by rintro rfl; rw [← e] at e'; subst e'; exact hn1 hd'
      exact ⟨b', e', q1, q2, (World.putObj_heap_other this).trans q3⟩
    have hl1 : Later g0 w0 g (w.putObj b (.deferred none)) := by
      refine ⟨⟨fun a v h => k2.cell a v (hl.1.cell a v h), hl.1.eta, hl.1.row⟩, ⟨by simpa using hl.2.size, hl.2.os, hl.2.tape, hl.2.output, ?_, hl.2.kept, hl.2.base⟩⟩
      intro b1 hb1 ho1
      obtain ⟨q1, q2, q3⟩ := hl.2.old b1 hb1 ho1
      exact ⟨(World.putObj_heap_other (by omega)).trans q1, q2, q3⟩
    refine ⟨by simp, .inl ⟨b, w.putObj b (.deferred none), by rw [e], run_takeDeferred h3, ?_⟩⟩
    exact St.leaves (a := { a with defers := ds }) st1 hl1 hb ds rfl hR

theorem Does.of_body {f : FuncId} {fn : Func} {c : Code} {rvs : List ResultVar} {ds : List D} {r : D} {S' : List Ob} (hf : P.funcs[f]? = some fn) (hb : fn.body = some c) (hN : fn.ntmps = N) (hres : fn.results = rvs.toArray) (hlen : Nat.ble ds.length N = true)
    (h : AWP P N c (Fin P rvs S.length r S') (frameOf ds) S) : Does P f ds S r S' := by
  intro g1 w vs hs hl hrep
  have hlen := Nat.le_of_ble_eq_true hlen
  obtain ⟨g, hg⟩ : ∃ g, g = { g1 with base := w.heap.size } := ⟨_, rfl⟩
  have hgb : g.base = w.heap.size := by rw [hg]
  have hs : Sim g w S := by rw [hg]; exact hs.rebase _
  have hrep : ∀ (i : Nat) (v : Value) (d : D), vs[i]? = some v → ds[i]? = some d → Rep g w v d := fun i v d h1 h2 => by rw [hg]; exact (hrep i v d h1 h2).mono (Le.rebase _)
  rw [← callsIn_wide (n := 0)]
  refine callsIn_of_wp_marks hf hb trivial ?_
  have st : St N g (frameOf ds) S { tmps := vs ++ Array.replicate (fn.ntmps - vs.size) undef, defers := [] } w := by
    refine ⟨by simp; omega, by rw [hgb]; exact Nat.le_refl _, List.nodup_nil, (fun d hd => by cases hd), ?_, hs⟩
    intro i
    show Rep g w ((vs ++ Array.replicate (fn.ntmps - vs.size) undef).getD i undef) (ds.getD i .any)
    by_cases hi : i < ds.length
    · have h1 : (vs ++ Array.replicate (fn.ntmps - vs.size) undef).getD i undef = vs[i]'(by omega) := by
        rw [Array.getD_eq_getD_getElem?, Array.getElem?_append_left (by omega), Array.getElem?_eq_getElem (by omega)]; rfl
      have h2 : ds.getD i .any = ds[i] := by rw [List.getD_eq_getElem?_getD, List.getElem?_eq_getElem hi]; rfl
      rw [h1, h2]
      exact hrep i _ _ (Array.getElem?_eq_getElem (by omega)) (List.getElem?_eq_getElem hi)
    · have h2 : ds.getD i .any = .any := by rw [List.getD_eq_getElem?_getD, List.getElem?_eq_none (by omega)]; rfl
      rw [h2]; exact .any _
  refine Code.wpIn_mono ?_ (h none (fun k => by cases k) g _ w st)
  rintro e a' w' ⟨g', tm', S1, ⟨he, ds', ι, hrv, hren, hnd, hid, hlen', hob⟩, st', hl'⟩
  have hfin : LeavesInM Fence.wide 0 P fn a'.tmps (fun e w' => ∃ v g', e = .returned v ∧ Rep g' w' v r ∧ Sim g' w' S' ∧ Later g1 w g' w') a'.defers .returning w' := by
    refine st'.leaves hl' (by rw [hl'.2.base, hgb]; exact Nat.le_refl _) a'.defers rfl ?_
    intro w2 st2 hl2
    obtain ⟨v, hrun, hv⟩ := results_rep st2 hres hrv
    have e1 : { (g'.sub ι) with base := g1.base } = ({ (g'.sub ι) with base := g1.base } : G) := rfl
    refine ⟨v, hrun, v, { (g'.sub ι) with base := g1.base }, rfl, (back_rep hren hv).mono (Le.rebase _), (st2.sim.sub hnd hlen' hob).rebase _, ?_⟩
    have h3 := hl2.sub hs hnd hid
    rw [hg] at h3
    exact ⟨⟨h3.1.cell, h3.1.eta, h3.1.row⟩, ⟨h3.2.size, h3.2.os, h3.2.tape, h3.2.output, h3.2.old, h3.2.kept, rfl⟩⟩
  rcases he with rfl | rfl
  · exact hfin
  · exact hfin

/-- Back from a call: the caller's ghost. -/
def G.join (g g' : G) (sz n m : Nat) : G :=
  { eta := fun l => if l < n then g.eta l else g'.eta (m + (l - n)), row := fun l => if l < n then g.row l else g'.row (m + (l - n)), lim := g'.lim,
    own := fun b => if b < sz then g.own b else (g'.own b).bind fun j => if m ≤ j then some (n + (j - m)) else none, base := g.base }

def fwdE (ι : List Nat) (n : Nat) (j l : Nat) : Prop := ι[j]? = some l ∨ ι.length ≤ j ∧ l = n + (j - ι.length)
def fwdR (ι : List Nat) (n : Nat) (j l : Nat) : Prop := ι.length ≤ j ∧ l = n + (j - ι.length)

theorem join_sim {g g' : G} {w w' : World} {Sc Sc' S' : List Ob} {ι : List Nat} (hs : Sim g w S) (hnd : ι.Nodup) (hsc : Sim (g.sub ι) w Sc) (hcl : Sc.length = ι.length) (hbox : ∀ (j : Nat) (ob : Ob), Sc[j]? = some ob → ∃ ds, ob = .box ds)
    (hbS : ∀ (l : Nat), l ∈ ι → ∃ ds, S[l]? = some (.box ds)) (hs' : Sim g' w' Sc') (hL : Later (g.sub ι) w g' w') (hlen : S'.length + ι.length = S.length + Sc'.length) (hge : ι.length ≤ Sc'.length)
    (h1 : ∀ (l : Nat), l < S.length → l ∉ ι → S'[l]? = S[l]?)
    (h2 : ∀ (j l : Nat), ι[j]? = some l → ∃ as bs, Sc'[j]? = some (.box as) ∧ S'[l]? = some (.box bs) ∧ ObRen (fwdE ι S.length) (fwdR ι S.length) (.box as) (.box bs))
    (h3 : ∀ (k : Nat) (ob : Ob), S'[S.length + k]? = some ob → ∃ ob', Sc'[ι.length + k]? = some ob' ∧ ObRen (fwdE ι S.length) (fwdR ι S.length) ob' ob) :
    Sim (g.join g' w.heap.size S.length ι.length) w' S' ∧ Later g w (g.join g' w.heap.size S.length ι.length) w' ∧
    ∀ (v : Value) (d d' : D), Ren (fwdE ι S.length) (fwdR ι S.length) d d' → Rep g' w' v d → Rep (g.join g' w.heap.size S.length ι.length) w' v d' := by
  have hιlt : ∀ l, l ∈ ι → l < S.length := fun l hl => by obtain ⟨ds, e⟩ := hbS l hl; exact (List.getElem?_eq_some_iff.1 e).1
  -- the passed boxes' blocks
  have hpass : ∀ (j l : Nat), ι[j]? = some l → ∃ b, g.eta l = some b ∧ g.own b = some l ∧ b < w.heap.size ∧ g'.eta j = some b ∧ g'.own b = some j := by
    intro j l hj
    obtain ⟨ds, e⟩ := hbS l (List.mem_of_getElem? hj)
    obtain ⟨b, c, T, he, ho, hh, _⟩ := hs.obs l _ e
    have hb := (hs.own b l ho).2
    refine ⟨b, he, ho, hb, hL.1.eta j b ?_, hL.2.kept b j hb (sub_own hnd ho hj)⟩
    show (ι[j]?).bind g.eta = some b
    rw [hj]; exact he
  have hrenE : ∀ j l, fwdE ι S.length j l → ∀ b, g'.eta j = some b → (g.join g' w.heap.size S.length ι.length).eta l = some b := by
    intro j l h b hb
    rcases h with h | ⟨h, rfl⟩
    · obtain ⟨b', k1, k2, k3, k4, k5⟩ := hpass j l h
      rw [k4] at hb; cases hb
      simp only [G.join]; rw [if_pos (hιlt l (List.mem_of_getElem? h))]; exact k1
    · simp only [G.join]; rw [if_neg (by omega), show ι.length + (S.length + (j - ι.length) - S.length) = j by omega]; exact hb
  have hrenR : ∀ j l, fwdR ι S.length j l → ∀ x, g'.row j = some x → (g.join g' w.heap.size S.length ι.length).row l = some x := by
    intro j l h x hx
    obtain ⟨h, rfl⟩ := h
    simp only [G.join]; rw [if_neg (by omega), show ι.length + (S.length + (j - ι.length) - S.length) = j by omega]; exact hx
  have hrep : ∀ (v : Value) (d d' : D), Ren (fwdE ι S.length) (fwdR ι S.length) d d' → Rep g' w' v d → Rep (g.join g' w.heap.size S.length ι.length) w' v d' :=
    fun v d d' h r => Ren.rep (g := g') (g' := g.join g' w.heap.size S.length ι.length) rfl hrenE hrenR h r
  have hold : ∀ b, b < w.heap.size → (∀ l, g.own b = some l → l ∉ ι) → (g.sub ι).own b = none := by
    intro b hb h
    simp only [G.sub]
    cases e : g.own b with
    | none => rfl
    | some l => simp only [Option.bind_some]; exact idx_none (h l e)
  have hle : Le g w (g.join g' w.heap.size S.length ι.length) w' := by
    refine ⟨fun a v h => hL.1.cell a v h, ?_, ?_⟩
    · intro l b e
      have : l < S.length := by
        rcases Nat.lt_or_ge l S.length with h | h
        · exact h
        · rw [hs.noEta l h] at e; cases e
      simp only [G.join]; rw [if_pos this]; exact e
    · intro l n x e
      have : l < S.length := by
        rcases Nat.lt_or_ge l S.length with h | h
        · exact h
        · rw [hs.noRow l h] at e; cases e
      exact ⟨n, x, by simp only [G.join]; rw [if_pos this]; exact e, .inr ⟨rfl, rfl⟩⟩
  have hnewown : ∀ b j, ι.length ≤ j → g'.own b = some j → (g.join g' w.heap.size S.length ι.length).own b = some (S.length + (j - ι.length)) := by
    intro b j hj hb
    have hge : ¬ b < w.heap.size := by
      intro hlt
      cases e : (g.sub ι).own b with
      | none => rw [(hL.2.old b hlt e).2.2] at hb; cases hb
      | some j' =>
        rw [hL.2.kept b j' hlt e] at hb
        cases hb
        have := (hsc.own b j e).1
        omega
    simp only [G.join]; rw [if_neg hge, hb]; simp only [Option.bind_some]; rw [if_pos hj]
  refine ⟨⟨?_, ?_, ?_, ?_, hs'.lim⟩, ⟨hle, ?_⟩, hrep⟩
  · intro l ob hl
    by_cases hlt : l < S.length
    · by_cases hm : l ∈ ι
      · obtain ⟨j, hj⟩ := List.getElem?_of_mem hm
        obtain ⟨as, bs, e1, e2, hr⟩ := h2 j l hj
        rw [e2] at hl; cases hl
        obtain ⟨b, k1, k2, k3, k4, k5⟩ := hpass j l hj
        obtain ⟨b', c, T, he, ho, hh, hsz, hlim, hreps⟩ := hs'.obs j _ e1
        rw [k4] at he; cases he
        cases hr with
        | box hl2 hren =>
          refine ⟨b, c, T, by simp only [G.join]; rw [if_pos hlt]; exact k1, by simp only [G.join]; rw [if_pos k3]; exact k2, hh, by omega, hlim, ?_⟩
          intro i v d g1 g2
          obtain ⟨x, hx⟩ := get_pair hl2 g2
          exact hrep _ _ _ (hren i x d hx g2) (hreps i v x g1 hx)
      · rw [h1 l hlt hm] at hl
        refine (hs.obs l ob hl).keep hle hL.2.ext ?_ (fun n x e => by simp only [G.join]; rw [if_pos hlt]; exact e) (fun e1 e2 => ⟨by simp only [G.join]; rw [if_pos hlt]; exact e1, by simp only [G.join]; rw [if_pos hlt]; exact e2⟩)
        intro b ho
        have hb := (hs.own b l ho).2
        obtain ⟨k1, k2, k3⟩ := hL.2.old b hb (hold b hb (fun l' e => by rw [ho] at e; cases e; exact hm))
        exact ⟨k1, k2, by simp only [G.join]; rw [if_pos hb]; exact ho⟩
    · obtain ⟨k, rfl⟩ : ∃ k, l = S.length + k := ⟨l - S.length, by omega⟩
      obtain ⟨ob', e, hr⟩ := h3 k ob hl
      have hidx : ι.length + (S.length + k - S.length) = ι.length + k := by omega
      have hown : ∀ b, g'.own b = some (ι.length + k) → (g.join g' w.heap.size S.length ι.length).own b = some (S.length + k) := by
        intro b hb
        have := hnewown b _ (by omega) hb
        rw [this]; congr 1; omega
      cases hr with
      | box hl2 hren =>
        obtain ⟨b', c, T, he, ho, hh, hsz, hlim, hreps⟩ := hs'.obs _ _ e
        refine ⟨b', c, T, by simp only [G.join]; rw [if_neg hlt, hidx]; exact he, hown _ ho, hh, by omega, hlim, ?_⟩
        intro i v d g1 g2
        obtain ⟨x, hx⟩ := get_pair hl2 g2
        exact hrep _ _ _ (hren i x d hx g2) (hreps i v x g1 hx)
      | row =>
        obtain ⟨a, cap, e1, e2, e3, e4⟩ := hs'.obs _ _ e
        refine ⟨a, cap, by simp only [G.join]; rw [if_neg hlt, hidx]; exact e1, e2, e3, ?_⟩
        rcases e4 with e4 | ⟨b, off, c, T, q1, q2, q3, q4, q5⟩
        · exact .inl e4
        · exact .inr ⟨b, off, c, T, q1, hown _ q2, q3, q4, q5⟩
      | seen =>
        obtain ⟨B, q1, q2⟩ := hs'.obs _ _ e
        exact ⟨B, fun b kb => hown _ (q1 b kb), q2⟩
  · intro l hl
    simp only [G.join]; rw [if_neg (by omega)]; exact hs'.noEta _ (by omega)
  · intro l hl
    simp only [G.join]; rw [if_neg (by omega)]; exact hs'.noRow _ (by omega)
  · intro b l hb
    simp only [G.join] at hb
    split at hb
    · rename_i hlt
      have := hs.own b l hb
      exact ⟨by omega, Nat.lt_of_lt_of_le hlt hL.2.size⟩
    · simp only [Option.bind_eq_some_iff] at hb
      obtain ⟨j, q1, q2⟩ := hb
      split at q2
      · cases q2
        have := hs'.own b j q1
        omega
      · cases q2
  · refine ⟨hL.2.size, hL.2.os, hL.2.tape, hL.2.output, ?_, ?_, rfl⟩
    · intro b hb ho
      obtain ⟨k1, k2, k3⟩ := hL.2.old b hb (hold b hb (fun l e => by rw [ho] at e; cases e))
      exact ⟨k1, k2, by simp only [G.join]; rw [if_pos hb]; exact ho⟩
    · intro b l hb ho
      simp only [G.join]; rw [if_pos hb]; exact ho
end Go.Abs
