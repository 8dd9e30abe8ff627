/- Ends of walks. -/
import Derived.Test.YtanfmpkjcoolmaaAbsK
set_option linter.unusedVariables false
set_option linter.unusedSimpArgs false
namespace Go.Abs
variable {P : Program} {N : Nat} {tm : Tm} {S : List Ob}

theorem rv_tmp {t : Nat} {d : D} (h : tm t = d) : RV P tm S (.tmp t) d := h ▸ .tmp t
theorem rv_cell {t : Nat} {T : TypeId} {sz : Nat} {ag : Bool} {p d : D} {cs : List D} (ht : TI P T sz ag) (hx : tm t = p) (h : p.at S = some cs) (hsz : Nat.ble (bif ag then sz else 1) cs.length = true) (hr : D.ofCells ag sz cs = d) : RV P tm S (.cell t T) d :=
  hr ▸ .cell ht (by rw [hx]; exact h) hsz

abbrev No : Nat → Nat → Prop := fun _ _ => False

/-- The call leaves nothing of its own. -/
theorem fin_pure {rvs : List ResultVar} {ds : List D} {d r : D} (h : RVs P tm S rvs ds) (hd : resD ds = d) (hr : Ren No No d r) : Fin P rvs 0 r [] .ret tm S :=
  ⟨.inr rfl, ds, [], h, by rw [hd]; exact hr.mono (fun _ _ h => h.elim) (fun _ _ h => h.elim), List.nodup_nil, fun j hj => absurd hj (by omega), rfl, fun j ob' h => by simp at h⟩
/-- It hands back a row of its own. -/
theorem fin_own {rvs : List ResultVar} {ds : List D} {nl : Option Bool} {xs ys : List (List D)} {l k k' sz : Nat} (h : RVs P tm S rvs ds) (hd : resD ds = .sl nl xs (.own l)) (hl : S[l]? = some (.row k sz)) (hx : ∀ x ∈ xs, ∀ d ∈ x, LF d) (hxy : xs = ys) (hk : k = k') :
    Fin P rvs 0 (.sl none ys (.own 0)) [.row k' sz] .ret tm S := by
  subst hxy hk
  refine ⟨.inr rfl, ds, [l], h, by rw [hd]; exact .own hx rfl, by simp, fun j hj => absurd hj (by omega), rfl, fun j ob' h => ?_⟩
  cases j with
  | zero =>
    simp only [List.getElem?_cons_zero, Option.some.injEq] at h
    subst h
    exact ⟨l, _, rfl, hl, .row⟩
  | succ j => simp at h
/-- It hands back a new variable's address. -/
theorem fin_new {rvs : List ResultVar} {ds : List D} {l : Nat} {cs bs : List D} (h : RVs P tm S rvs ds) (hd : resD ds = .bp l 0) (hl : S[l]? = some (.box cs)) (hb : RenAll No No cs bs) :
    Fin P rvs 0 (.bp 0 0) [.box bs] .ret tm S := by
  refine ⟨.inr rfl, ds, [l], h, by rw [hd]; exact .bp rfl, by simp, fun j hj => absurd hj (by omega), rfl, fun j ob' h => ?_⟩
  cases j with
  | zero =>
    simp only [List.getElem?_cons_zero, Option.some.injEq] at h
    subst h
    exact ⟨l, _, rfl, hl, .box hb.length (hb.mono (fun _ _ h => h.elim) (fun _ _ h => h.elim)).get⟩
  | succ j => simp at h
/-- It has written one variable of the caller's. -/
theorem fin_box {rvs : List ResultVar} {ds : List D} {d r : D} {cs bs : List D} (h : RVs P tm S rvs ds) (hd : resD ds = d) (hr : Ren No No d r) (hl : S[0]? = some (.box cs)) (hb : RenAll No No cs bs) :
    Fin P rvs 1 r [.box bs] .ret tm S := by
  refine ⟨.inr rfl, ds, [0], h, by rw [hd]; exact hr.mono (fun _ _ h => h.elim) (fun _ _ h => h.elim), by simp, fun j hj => by cases j with | zero => rfl | succ j => exact absurd hj (by simp), rfl, fun j ob' h => ?_⟩
  cases j with
  | zero =>
    simp only [List.getElem?_cons_zero, Option.some.injEq] at h
    subst h
    exact ⟨0, _, rfl, hl, .box hb.length (hb.mono (fun _ _ h => h.elim) (fun _ _ h => h.elim)).get⟩
  | succ j => simp at h
theorem Fin.normal {rvs : List ResultVar} {n : Nat} {r : D} {S' : List Ob} (h : Fin P rvs n r S' .ret tm S) : Fin P rvs n r S' .normal tm S := ⟨.inl rfl, h.2⟩

theorem renAll_lf : ∀ {ds : List D}, (∀ d ∈ ds, LF d) → RenAll No No ds ds
  | [], _ => .nil
  | d :: ds, h => .cons (.lf (h d (by simp))) (renAll_lf fun x hx => h x (by simp [hx]))
theorem lf_nil : ∀ d ∈ ([] : List D), LF d := fun d h => by cases h
theorem lf_cons {d : D} {ds : List D} (h : LF d) (t : ∀ x ∈ ds, LF x) : ∀ x ∈ d :: ds, LF x := fun x hx => by
  rcases List.mem_cons.1 hx with rfl | hx
  · exact h
  · exact t x hx
theorem lf_ints {nl : Option Bool} {k : IntKind} {xs : List Int} {c : Cap} (hc : c = .ro ∨ c = .full) : LF (.sl nl (ints k xs) c) := .sl (ints_lf k xs) hc
theorem ren_ints {ρ σ : Nat → Nat → Prop} {nl : Option Bool} {k : IntKind} {xs : List Int} {c : Cap} : Ren ρ σ (.sl nl (ints k xs) c) (.sl none (ints k xs) .ro) := .ro (ints_lf k xs)
end Go.Abs
