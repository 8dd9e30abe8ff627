/- Calls walked in place, with the caller's own objects; addresses within arrays. -/
import Derived.Test.YtanfmpkjcoolmaaGreatAbsZm
set_option linter.unusedVariables false
set_option linter.unusedSimpArgs false
namespace Go.Abs
variable {P : Program} {N : Nat} {ops : Array Oper} {l : List Oper} {Q : Exit → Tm → List Ob → Prop} {tm : Tm} {S : List Ob}
/-- What a call comes to, told by what is left of it. -/
def DoesK (P : Program) (f : FuncId) (ds : List D) (S : List Ob) (K : D → List Ob → Prop) : Prop :=
  ∀ (g : G) (w : World) (vs : Array Value), Sim g w S → vs.size = ds.length → (∀ (i : Nat) (v : Value) (d : D), vs[i]? = some v → ds[i]? = some d → Rep g w v d) →
    Calls P f vs w (fun e w' => ∃ v g' r S', e = .returned v ∧ K r S' ∧ Rep g' w' v r ∧ Sim g' w' S' ∧ Later g w g' w')
/-- The end of a function that is walked in place. -/
def FinK (P : Program) (rvs : List ResultVar) (K : D → List Ob → Prop) (e : Exit) (tm : Tm) (S : List Ob) : Prop :=
  (e = .normal ∨ e = .ret) ∧ ∃ ds, RVs P tm S rvs ds ∧ K (resD ds) S
theorem finK_ret {rvs : List ResultVar} {ds : List D} {d : D} {K : D → List Ob → Prop} (h : RVs P tm S rvs ds) (hd : resD ds = d) (k : K d S) : FinK P rvs K .ret tm S := ⟨.inr rfl, ds, h, by rw [hd]; exact k⟩
theorem finK_normal {rvs : List ResultVar} {ds : List D} {d : D} {K : D → List Ob → Prop} (h : RVs P tm S rvs ds) (hd : resD ds = d) (k : K d S) : FinK P rvs K .normal tm S := ⟨.inl rfl, ds, h, by rw [hd]; exact k⟩
theorem DoesK.of_body {f : FuncId} {fn : Func} {c : Code} {rvs : List ResultVar} {ds : List D} {K : D → List Ob → Prop} (hf : P.funcs[f]? = some fn) (hb : fn.body = some c) (hN : fn.ntmps = N) (hres : fn.results = rvs.toArray) (hlen : Nat.ble ds.length N = true)
    (h : AWP P N c (FinK P rvs K) (frameOf ds) S) : DoesK P f ds S K := by
  intro g1 w vs hs hl hrep
  have hlen := Nat.le_of_ble_eq_true hlen
  obtain ⟨g, hg⟩ : ∃ g, g = { g1 with base := w.heap.size } := ⟨_, rfl⟩
  have hgb : g.base = w.heap.size := by rw [hg]
  have hs : Sim g w S := by rw [hg]; exact hs.rebase _
  have hrep : ∀ (i : Nat) (v : Value) (d : D), vs[i]? = some v → ds[i]? = some d → Rep g w v d := fun i v d h1 h2 => by rw [hg]; exact (hrep i v d h1 h2).mono (Le.rebase _)
  rw [← callsIn_wide (n := 0)]
  refine callsIn_of_wp_marks hf hb trivial ?_
  have st : St N g (frameOf ds) S { tmps := vs ++ Array.replicate (fn.ntmps - vs.size) undef, defers := [] } w := by
    refine ⟨by simp; omega, by rw [hgb]; exact Nat.le_refl _, List.nodup_nil, (fun d hd => by cases hd), ?_, hs⟩
    intro i
    show Rep g w ((vs ++ Array.replicate (fn.ntmps - vs.size) undef).getD i undef) (ds.getD i .any)
    by_cases hi : i < ds.length
    · have h1 : (vs ++ Array.replicate (fn.ntmps - vs.size) undef).getD i undef = vs[i]'(by omega) := by
        rw [Array.getD_eq_getD_getElem?, Array.getElem?_append_left (by omega), Array.getElem?_eq_getElem (by omega)]; rfl
      have h2 : ds.getD i .any = ds[i] := by rw [List.getD_eq_getElem?_getD, List.getElem?_eq_getElem hi]; rfl
      rw [h1, h2]
      exact hrep i _ _ (Array.getElem?_eq_getElem (by omega)) (List.getElem?_eq_getElem hi)
    · have h2 : ds.getD i .any = .any := by rw [List.getD_eq_getElem?_getD, List.getElem?_eq_none (by omega)]; rfl
      rw [h2]; exact .any _
  refine Code.wpIn_mono ?_ (h none (fun k => by cases k) g _ w st)
  rintro e a' w' ⟨g', tm', S1, ⟨he, ds', hrv, hk⟩, st', hl'⟩
  have hfin : LeavesInM Fence.wide 0 P fn a'.tmps (fun e w' => ∃ v g' r S', e = .returned v ∧ K r S' ∧ Rep g' w' v r ∧ Sim g' w' S' ∧ Later g1 w g' w') a'.defers .returning w' := by
    refine st'.leaves hl' (by rw [hl'.2.base, hgb]; exact Nat.le_refl _) a'.defers rfl ?_
    intro w2 st2 hl2
    obtain ⟨v, hrun, hv⟩ := results_rep st2 hres hrv
    refine ⟨v, hrun, v, { g' with base := g1.base }, resD ds', S1, rfl, hk, hv.mono (Le.rebase _), st2.sim.rebase _, ?_⟩
    have h3 := hl2
    rw [hg] at h3
    exact ⟨⟨h3.1.cell, h3.1.eta, h3.1.row⟩, ⟨h3.2.size, h3.2.os, h3.2.tape, h3.2.output, h3.2.old, h3.2.kept, rfl⟩⟩
  rcases he with rfl | rfl
  · exact hfin
  · exact hfin
section ops
variable {dst : Option Tmp} {ty : TypeId} {pos : String} {after : Array Edge}
theorem op_callK {fo : Operand} {as : Array Operand} {ts : Array TypeId} {f : FuncId} {fi ca : List D} {ds : List D} (hd : dstOk N dst = true) (hcf : CF P f) (hf : ev tm fo = .fn (.func f) fi ca) (ha : fi ++ as.toList.map (ev tm) ++ ca = ds)
    (h : DoesK P f ds S (fun r S' => AOps P N ops l Q (putO tm dst r) S')) : AOps P N ops (⟨dst, .call ⟨.value fo, as, ts⟩, ty, pos, after, none⟩ :: l) Q tm S := fun ro g a w st => by
  have rf := st.ev fo
  rw [hf] at rf
  generalize hvf : a.eval fo = vf at rf
  cases rf with
  | fn hs hs' hrep hrep' =>
    rename_i vfi vca
    obtain ⟨fn, hfn, hname, hbody⟩ := hcf
    have hrun : (execOp a.eval (⟨dst, .call ⟨.value fo, as, ts⟩, ty, pos, after, none⟩ : Oper)).run P w = .ok (.enter f (vfi ++ as.map a.eval ++ vca)) w := by
      have hname' : ¬ fn.name = "runtime.NumGoroutine" := by simpa using hname
      have hbody' : ¬ fn.body = none := by intro e; rw [e] at hbody; cases hbody
      simp [execOp, resolve, hvf, Deferred.ofValue, invoke, callFunc, hfn, hname', hbody']
    subst ha
    have hsz : (vfi ++ as.map a.eval ++ vca).size = (fi ++ as.toList.map (ev tm) ++ ca).length := by
      simp only [List.length_append, List.length_map, Array.length_toList, Array.size_append, Array.size_map]
      omega
    have hreps : ∀ (i : Nat) (v : Value) (d : D), (vfi ++ as.map a.eval ++ vca)[i]? = some v → (fi ++ as.toList.map (ev tm) ++ ca)[i]? = some d → Rep g w v d := by
      intro i v x e1 hx
      rw [← Array.getElem?_toList] at e1
      simp only [Array.toList_append, Array.toList_map] at e1
      by_cases c1 : i < fi.length
      · rw [List.append_assoc, List.getElem?_append_left (by simp; omega)] at e1
        rw [List.append_assoc, List.getElem?_append_left c1] at hx
        exact hrep i v x (by simpa using e1) hx
      · rw [List.append_assoc, List.getElem?_append_right (by simp; omega)] at e1
        rw [List.append_assoc, List.getElem?_append_right (by omega)] at hx
        rw [show i - vfi.toList.length = i - fi.length by simp; omega] at e1
        by_cases c2 : i - fi.length < as.size
        · rw [List.getElem?_append_left (by simp; omega)] at e1 hx
          simp only [List.getElem?_map, Option.map_eq_some_iff] at e1 hx
          obtain ⟨o1, q1, rfl⟩ := e1
          obtain ⟨o2, q2, rfl⟩ := hx
          rw [q1] at q2; cases q2
          exact st.ev o1
        · rw [List.getElem?_append_right (by simp; omega)] at e1 hx
          simp only [List.length_map, Array.length_toList] at e1 hx
          exact hrep' _ v x (by simpa using e1) hx
    unfold wpListIn
    rw [if_pos (by simp [Region.wanted])]
    refine ⟨about_wide, ?_⟩
    rw [run_semAt hrun (fun _ e => by cases e)]
    refine ⟨depth_wide, ?_⟩
    show CallsIn Fence.wide 0 P f _ w _
    rw [callsIn_wide]
    refine (h g w _ st.sim hsz hreps).mono ?_
    rintro e w' ⟨v, g', r, S', rfl, hK, hv, hs', hL⟩
    exact wpList_mono (fun e a' w2 k => Post.later hL k) _ _ _ (hK ro _ _ w' ((st.later hL hs').put (dstOk_lt hd) hv))
end ops
end Go.Abs
