/- The rules, with what they leave told apart. -/
import Derived.Test.YtanfmpkjcoolmaaAbsI
set_option linter.unusedVariables false
set_option linter.unusedSimpArgs false
namespace Go.Abs
variable {P : Program} {N : Nat} {ops : Array Oper} {l : List Oper} {Q : Exit → Tm → List Ob → Prop} {tm : Tm} {S : List Ob}

theorem AWP.region {l : List Oper} {id : Nat} (h : AOps P N l.toArray l Q tm S) : AWP P N (.region id l.toArray false) Q tm S := fun ro _ g a w st => wpIn_region_lit (h ro g a w st)
theorem AOps.done {y : Code} (h : AWP P N y Q tm S) : AOps P N ops [] (Then (fun tm' S' => AWP P N y Q tm' S') Q) tm S := AOps.nil h
theorem AWP.skipThen {y : Code} (h : AWP P N y Q tm S) : AWP P N .skip (Then (fun tm' S' => AWP P N y Q tm' S') Q) tm S := AWP.skip h
theorem AWP.frame {c : Code} {tm' : Tm} (h : AWP P N c Q tm' S) (e : FLe tm tm') : AWP P N c Q tm S := h.forget e

/-- A function that can be entered. -/
def CF (P : Program) (f : FuncId) : Prop := ∃ fn, P.funcs[f]? = some fn ∧ (fn.name == "runtime.NumGoroutine") = false ∧ fn.body.isNone = false

inductive RenAll (ρ σ : Nat → Nat → Prop) : List D → List D → Prop
  | nil : RenAll ρ σ [] []
  | cons {a b : D} {as bs : List D} (h : Ren ρ σ a b) (t : RenAll ρ σ as bs) : RenAll ρ σ (a :: as) (b :: bs)
theorem RenAll.length {ρ σ : Nat → Nat → Prop} {as bs : List D} (h : RenAll ρ σ as bs) : as.length = bs.length := by
  induction h with
  | nil => rfl
  | cons h t ih => simp [ih]
theorem RenAll.get {ρ σ : Nat → Nat → Prop} {as bs : List D} (h : RenAll ρ σ as bs) : ∀ (i : Nat) (x y : D), as[i]? = some x → bs[i]? = some y → Ren ρ σ x y := by
  induction h with
  | nil => intro i x y h; simp at h
  | cons h t ih =>
    intro i x y h1 h2
    cases i with
    | zero => simp at h1 h2; subst h1; subst h2; exact h
    | succ i => exact ih i x y (by simpa using h1) (by simpa using h2)

theorem Ren.mono {ρ σ ρ' σ' : Nat → Nat → Prop} (hρ : ∀ a b, ρ a b → ρ' a b) (hσ : ∀ a b, σ a b → σ' a b) {d d' : D} (h : Ren ρ σ d d') : Ren ρ' σ' d d' := by
  induction h with
  | lf h => exact .lf h
  | any => exact .any
  | bp h => exact .bp (hρ _ _ h)
  | bs h => exact .bs (hρ _ _ h)
  | own h hs => exact .own h (hσ _ _ hs)
  | ro h => exact .ro h
  | nl h hc => exact .nl h hc
  | agg hl h ih => exact .agg hl ih
  | tup hl h ih => exact .tup hl ih
  | fn hl hl' h h' ih ih' => exact .fn hl hl' ih ih'
theorem RenAll.mono {ρ σ ρ' σ' : Nat → Nat → Prop} (hρ : ∀ a b, ρ a b → ρ' a b) (hσ : ∀ a b, σ a b → σ' a b) {as bs : List D} (h : RenAll ρ σ as bs) : RenAll ρ' σ' as bs := by
  induction h with
  | nil => exact .nil
  | cons h t ih => exact .cons (h.mono hρ hσ) ih

section ops
variable {dst : Option Tmp} {ty : TypeId} {pos : String} {after : Array Edge}

/-- A call, in general: the callee's objects are the caller's ι. -/
theorem op_callG {fo : Operand} {as : Array Operand} {ts : Array TypeId} {f : FuncId} {fi ca : List D} {ds : List D} {Sc Sc' S' : List Ob} {r r' : D} {ι : List Nat} (hd : dstOk N dst = true) (hcf : CF P f) (hf : ev tm fo = .fn (.func f) fi ca)
    (h : Does P f ds Sc r Sc') (hnd : ι.Nodup) (hcl : Sc.length = ι.length)
    (hS : ∀ (j : Nat) (ob' : Ob), Sc[j]? = some ob' → ∃ l as bs, ι[j]? = some l ∧ S[l]? = some (.box as) ∧ ob' = .box bs ∧ ObRen (back ι) (back ι) (.box as) (.box bs))
    (hargs : RenAll (back ι) (back ι) (fi ++ as.toList.map (ev tm) ++ ca) ds)
    (hlen : S'.length + ι.length = S.length + Sc'.length) (hge : ι.length ≤ Sc'.length) (h1 : ∀ (l : Nat), l < S.length → l ∉ ι → S'[l]? = S[l]?)
    (h2 : ∀ (j l : Nat), ι[j]? = some l → ∃ as bs, Sc'[j]? = some (.box as) ∧ S'[l]? = some (.box bs) ∧ ObRen (fwdE ι S.length) (fwdR ι S.length) (.box as) (.box bs))
    (h3 : ∀ (k : Nat) (ob : Ob), S'[S.length + k]? = some ob → ∃ ob', Sc'[ι.length + k]? = some ob' ∧ ObRen (fwdE ι S.length) (fwdR ι S.length) ob' ob)
    (hr : Ren (fwdE ι S.length) (fwdR ι S.length) r r')
    (rest : AOps P N ops l Q (putO tm dst r') S') : AOps P N ops (⟨dst, .call ⟨.value fo, as, ts⟩, ty, pos, after, none⟩ :: l) Q tm S := fun ro g a w st => by
  have rf := st.ev fo
  rw [hf] at rf
  generalize hvf : a.eval fo = vf at rf
  cases rf with
  | fn hs hs' hrep hrep' =>
    rename_i vfi vca
    obtain ⟨fn, hfn, hname, hbody⟩ := hcf
    have hrun : (execOp a.eval (⟨dst, .call ⟨.value fo, as, ts⟩, ty, pos, after, none⟩ : Oper)).run P w = .ok (.enter f (vfi ++ as.map a.eval ++ vca)) w := by
      have hname' : ¬ fn.name = "runtime.NumGoroutine" := by simpa using hname
      have hbody' : ¬ fn.body = none := by intro e; rw [e] at hbody; cases hbody
      simp [execOp, resolve, hvf, Deferred.ofValue, invoke, callFunc, hfn, hname', hbody']
    have hsub : Sim (g.sub ι) w Sc := st.sim.sub hnd hcl (fun j ob' hj => by
      obtain ⟨l, as, bs, e1, e2, rfl, e3⟩ := hS j ob' hj
      exact ⟨l, _, e1, e2, e3⟩)
    have hsz : (vfi ++ as.map a.eval ++ vca).size = ds.length := by
      have := hargs.length
      simp only [List.length_append, List.length_map, Array.length_toList] at this
      simp only [Array.size_append, Array.size_map]
      omega
    have hreps : ∀ (i : Nat) (v : Value) (d : D), (vfi ++ as.map a.eval ++ vca)[i]? = some v → ds[i]? = some d → Rep (g.sub ι) w v d := by
      intro i v d e1 e2
      obtain ⟨x, hx⟩ := get_pair hargs.length e2
      refine back_rep (hargs.get i x d hx e2) ?_
      rw [← Array.getElem?_toList] at e1
      simp only [Array.toList_append, Array.toList_map] at e1
      by_cases c1 : i < fi.length
      · rw [List.append_assoc, List.getElem?_append_left (by simp; omega)] at e1
        rw [List.append_assoc, List.getElem?_append_left c1] at hx
        exact hrep i v x (by simpa using e1) hx
      · rw [List.append_assoc, List.getElem?_append_right (by simp; omega)] at e1
        rw [List.append_assoc, List.getElem?_append_right (by omega)] at hx
        rw [show i - vfi.toList.length = i - fi.length by simp; omega] at e1
        by_cases c2 : i - fi.length < as.size
        · rw [List.getElem?_append_left (by simp; omega)] at e1 hx
          simp only [List.getElem?_map, Option.map_eq_some_iff] at e1 hx
          obtain ⟨o1, q1, rfl⟩ := e1
          obtain ⟨o2, q2, rfl⟩ := hx
          rw [q1] at q2; cases q2
          exact st.ev o1
        · rw [List.getElem?_append_right (by simp; omega)] at e1 hx
          simp only [List.length_map, Array.length_toList] at e1 hx
          exact hrep' _ v x (by simpa using e1) hx
    unfold wpListIn
    rw [if_pos (by simp [Region.wanted])]
    refine ⟨about_wide, ?_⟩
    rw [run_semAt hrun (fun _ e => by cases e)]
    refine ⟨depth_wide, ?_⟩
    show CallsIn Fence.wide 0 P f _ w _
    rw [callsIn_wide]
    refine (h (g.sub ι) w _ hsub hsz hreps).mono ?_
    rintro e w' ⟨v, g', rfl, hv, hs', hL⟩
    have hbox : ∀ (j : Nat) (ob : Ob), Sc[j]? = some ob → ∃ ds, ob = .box ds := fun j ob hj => by
      obtain ⟨l, as, bs, e1, e2, e3, e4⟩ := hS j ob hj
      exact ⟨bs, e3⟩
    have hbS : ∀ (l : Nat), l ∈ ι → ∃ ds, S[l]? = some (.box ds) := fun l hl => by
      obtain ⟨j, hj⟩ := List.getElem?_of_mem hl
      have hlt : j < Sc.length := by rw [hcl]; exact (List.getElem?_eq_some_iff.1 hj).1
      obtain ⟨l', as, bs, e1, e2, e3, e4⟩ := hS j _ (List.getElem?_eq_getElem hlt)
      rw [hj] at e1; cases e1
      exact ⟨as, e2⟩
    obtain ⟨k1, k2, k3⟩ := join_sim st.sim hnd hsub hcl hbox hbS hs' hL hlen hge h1 h2 h3
    exact wpList_mono (fun e a' w2 k => Post.later k2 k) _ _ _ (rest ro _ _ w' ((st.later k2 k1).put (dstOk_lt hd) (k3 v r r' hr hv)))

/-- A call that touches no object. -/
theorem op_call0 {fo : Operand} {as : Array Operand} {ts : Array TypeId} {f : FuncId} {fi ca args : List D} {ds : List D} {r : D} (hd : dstOk N dst = true) (hcf : CF P f) (hf : ev tm fo = .fn (.func f) fi ca) (h : Does P f ds [] r [])
    (ha : fi ++ as.toList.map (ev tm) ++ ca = args) (hargs : RenAll (fun _ _ => False) (fun _ _ => False) args ds) (hr : LF r)
    (rest : AOps P N ops l Q (putO tm dst r) S) : AOps P N ops (⟨dst, .call ⟨.value fo, as, ts⟩, ty, pos, after, none⟩ :: l) Q tm S := by
  refine op_callG hd hcf hf h (ι := []) List.nodup_nil rfl (fun j ob' hj => by simp at hj) ?_ (by simp) (Nat.le_refl _) (fun _ _ _ => rfl) (fun j l hj => by simp at hj) (fun k ob hk => by rw [List.getElem?_eq_none (by omega)] at hk; cases hk) (.lf hr) rest
  rw [ha]
  exact hargs.mono (fun _ _ h => h.elim) (fun _ _ h => h.elim)

/-- A call that hands back a row of its own. -/
theorem op_callOwn {fo : Operand} {as : Array Operand} {ts : Array TypeId} {f : FuncId} {fi ca args : List D} {ds : List D} {nl : Option Bool} {xs : List (List D)} {k sz : Nat} (hd : dstOk N dst = true) (hcf : CF P f) (hf : ev tm fo = .fn (.func f) fi ca) (h : Does P f ds [] (.sl nl xs (.own 0)) [.row k sz])
    (ha : fi ++ as.toList.map (ev tm) ++ ca = args) (hargs : RenAll (fun _ _ => False) (fun _ _ => False) args ds) (hx : ∀ x ∈ xs, ∀ d ∈ x, LF d)
    (rest : AOps P N ops l Q (putO tm dst (.sl none xs (.own S.length))) (S ++ [.row k sz])) : AOps P N ops (⟨dst, .call ⟨.value fo, as, ts⟩, ty, pos, after, none⟩ :: l) Q tm S := by
  refine op_callG hd hcf hf h (ι := []) List.nodup_nil rfl (fun j ob' hj => by simp at hj) ?_ (by simp) (by simp) (fun l hl _ => by rw [List.getElem?_append_left hl]) (fun j l hj => by simp at hj)
    (fun k ob hk => ?_) (.own hx ⟨Nat.zero_le _, rfl⟩) rest
  · rw [ha]
    exact hargs.mono (fun _ _ h => h.elim) (fun _ _ h => h.elim)
  · rw [List.getElem?_append_right (by omega), Nat.add_sub_cancel_left] at hk
    refine ⟨ob, by simpa using hk, ?_⟩
    cases k with
    | zero => simp at hk; subst hk; exact .row
    | succ k => simp at hk

theorem lf_pair {ρ σ : Nat → Nat → Prop} {bs : List D} (h : ∀ d ∈ bs, LF d) : ∀ (i : Nat) (x y : D), bs[i]? = some x → bs[i]? = some y → Ren ρ σ x y := by
  intro i x y h1 h2
  rw [h1] at h2; cases h2
  exact .lf (h x (List.mem_of_getElem? h1))

/-- A call that hands back a new variable's address. -/
theorem op_callNew {fo : Operand} {as : Array Operand} {ts : Array TypeId} {f : FuncId} {fi ca args : List D} {ds : List D} {bs : List D} (hd : dstOk N dst = true) (hcf : CF P f) (hf : ev tm fo = .fn (.func f) fi ca) (h : Does P f ds [] (.bp 0 0) [.box bs])
    (ha : fi ++ as.toList.map (ev tm) ++ ca = args) (hargs : RenAll (fun _ _ => False) (fun _ _ => False) args ds) (hx : ∀ d ∈ bs, LF d)
    (rest : AOps P N ops l Q (putO tm dst (.bp S.length 0)) (S ++ [.box bs])) : AOps P N ops (⟨dst, .call ⟨.value fo, as, ts⟩, ty, pos, after, none⟩ :: l) Q tm S := by
  refine op_callG hd hcf hf h (ι := []) List.nodup_nil rfl (fun j ob' hj => by simp at hj) ?_ (by simp) (by simp) (fun l hl _ => by rw [List.getElem?_append_left hl]) (fun j l hj => by simp at hj)
    (fun k ob hk => ?_) (.bp (.inr ⟨Nat.zero_le _, rfl⟩)) rest
  · rw [ha]
    exact hargs.mono (fun _ _ h => h.elim) (fun _ _ h => h.elim)
  · rw [List.getElem?_append_right (by omega), Nat.add_sub_cancel_left] at hk
    refine ⟨ob, by simpa using hk, ?_⟩
    cases k with
    | zero => simp at hk; subst hk; exact .box rfl (lf_pair hx)
    | succ k => simp at hk

/-- A call that reads and writes one variable of the caller's. -/
theorem op_callBox {fo : Operand} {as : Array Operand} {ts : Array TypeId} {f : FuncId} {fi ca args : List D} {ds : List D} {l0 : Nat} {cs bs bs' : List D} {r : D} (hd : dstOk N dst = true) (hcf : CF P f) (hf : ev tm fo = .fn (.func f) fi ca) (h : Does P f ds [.box bs] r [.box bs'])
    (ha : fi ++ as.toList.map (ev tm) ++ ca = args) (hl : S[l0]? = some (.box cs)) (hin : RenAll (fun _ _ => False) (fun _ _ => False) cs bs) (hargs : RenAll (fun a b => a = l0 ∧ b = 0) (fun _ _ => False) args ds) (hx : ∀ d ∈ bs', LF d) (hr : LF r)
    (rest : AOps P N ops l Q (putO tm dst r) (S.set l0 (.box bs'))) : AOps P N ops (⟨dst, .call ⟨.value fo, as, ts⟩, ty, pos, after, none⟩ :: l) Q tm S := by
  have hlt : l0 < S.length := (List.getElem?_eq_some_iff.1 hl).1
  refine op_callG hd hcf hf h (ι := [l0]) (by simp) rfl (fun j ob' hj => ?_) ?_ (by simp) (by simp) (fun l hl hm => by simp at hm; rw [List.getElem?_set_ne (by omega)]) (fun j l hj => ?_)
    (fun k ob hk => by rw [List.getElem?_eq_none (by simp)] at hk; cases hk) (.lf hr) rest
  · cases j with
    | zero =>
      simp only [List.getElem?_cons_zero, Option.some.injEq] at hj
      refine ⟨l0, cs, bs, rfl, hl, hj.symm, .box hin.length (hin.mono (fun _ _ h => h.elim) (fun _ _ h => h.elim)).get⟩
    | succ j => simp at hj
  · rw [ha]
    exact hargs.mono (fun a b h => by obtain ⟨rfl, rfl⟩ := h; rfl) (fun _ _ h => h.elim)
  · cases j with
    | zero =>
      simp only [List.getElem?_cons_zero, Option.some.injEq] at hj
      subst hj
      exact ⟨bs', bs', rfl, by rw [List.getElem?_set_self hlt], .box rfl (lf_pair hx)⟩
    | succ j => simp at hj
end ops

/-! ### Numbers and bytes -/
def ints (k : IntKind) (xs : List Int) : List (List D) := xs.map fun x => [.val (.int k x)]
theorem ints_length (k : IntKind) (xs : List Int) : (ints k xs).length = xs.length := by simp [ints]
theorem ints_lf (k : IntKind) (xs : List Int) : ∀ x ∈ ints k xs, ∀ d ∈ x, LF d := by
  intro x hx d hd
  obtain ⟨y, _, rfl⟩ := List.mem_map.1 hx
  simp only [List.mem_singleton] at hd
  subst hd
  exact .val _
theorem ints_one (k : IntKind) (xs : List Int) : ∀ x ∈ ints k xs, x.length = 1 := by
  intro x hx
  obtain ⟨y, _, rfl⟩ := List.mem_map.1 hx
  rfl
theorem ints_append (k : IntKind) (xs ys : List Int) : ints k xs ++ ints k ys = ints k (xs ++ ys) := by simp [ints]
theorem ints_snoc (k : IntKind) (xs : List Int) (y : Int) : ints k xs ++ [[.val (.int k y)]] = ints k (xs ++ [y]) := by simp [ints]
theorem ints_get (k : IntKind) (xs : List Int) (i : Nat) (h : i < xs.length) : (ints k xs)[i]? = some [.val (.int k (xs.getD i 0))] := by
  simp [ints, List.getElem?_eq_getElem h, List.getD_eq_getElem?_getD]
theorem ints_take (k : IntKind) (xs : List Int) (n : Nat) : (ints k xs).take n = ints k (xs.take n) := by simp [ints, List.map_take]
theorem ints_drop (k : IntKind) (xs : List Int) (n : Nat) : (ints k xs).drop n = ints k (xs.drop n) := by simp [ints, List.map_drop]
end Go.Abs
