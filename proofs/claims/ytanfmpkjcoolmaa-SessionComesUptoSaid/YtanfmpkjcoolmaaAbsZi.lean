/- Results that hold a row or a block of their own somewhere within. -/
import Derived.Test.YtanfmpkjcoolmaaAbsZh
set_option linter.unusedVariables false
set_option linter.unusedSimpArgs false
namespace Go.Abs
variable {P : Program} {N : Nat} {ops : Array Oper} {l : List Oper} {Q : Exit → Tm → List Ob → Prop} {tm : Tm} {S : List Ob}
theorem fin_rowR {rvs : List ResultVar} {ds : List D} {d r : D} {l k k' sz : Nat} (h : RVs P tm S rvs ds) (hd : resD ds = d) (hr : Ren No (fun a b => a = l ∧ b = 0) d r) (hl : S[l]? = some (.row k sz)) (hk : k = k') :
    Fin P rvs 0 r [.row k' sz] .ret tm S := by
  subst hk
  refine ⟨.inr rfl, ds, [l], h, by rw [hd]; exact hr.mono (fun _ _ h => h.elim) (fun a b h => by obtain ⟨rfl, rfl⟩ := h; rfl), by simp, fun j hj => absurd hj (by omega), rfl, fun j ob' h => ?_⟩
  cases j with
  | zero =>
    simp only [List.getElem?_cons_zero, Option.some.injEq] at h
    subst h
    exact ⟨l, _, rfl, hl, .row⟩
  | succ j => simp at h
section ops
variable {t : Tmp} {ty : TypeId} {pos : String} {after : Array Edge}
theorem n_callRowR {fo : Operand} {as : Array Operand} {ts : Array TypeId} {f : FuncId} {fi ca args : List D} {ds : List D} {r r' : D} {k sz n : Nat} {S' : List Ob} (hd : Nat.blt t N = true) (hcf : CF P f) (hf : ev tm fo = .fn (.func f) fi ca)
    (ha : fi ++ as.toList.map (ev tm) ++ ca = args) (hargs : RenAll (fun _ _ => False) (fun _ _ => False) args ds) (h : Does P f ds [] r [.row k sz]) (hn : S.length = n) (hr : Ren (fun _ _ => False) (fun a b => a = 0 ∧ b = n) r r') (hS : S ++ [.row k sz] = S')
    (rest : AOps P N ops l Q (put tm t r') S') : AOps P N ops (⟨some t, .call ⟨.value fo, as, ts⟩, ty, pos, after, none⟩ :: l) Q tm S := by
  subst hn hS
  refine op_callG (dst := some t) hd hcf hf h (ι := []) List.nodup_nil rfl (fun j ob' hj => by simp at hj) ?_ (by simp) (by simp) (fun l hl _ => by rw [List.getElem?_append_left hl]) (fun j l hj => by simp at hj)
    (fun k ob hk => ?_) (hr.mono (fun _ _ h => h.elim) (fun a b h => by obtain ⟨rfl, rfl⟩ := h; exact ⟨Nat.zero_le _, rfl⟩)) rest
  · rw [ha]
    exact hargs.mono (fun _ _ h => h.elim) (fun _ _ h => h.elim)
  · rw [List.getElem?_append_right (by omega), Nat.add_sub_cancel_left] at hk
    refine ⟨ob, by simpa using hk, ?_⟩
    cases k with
    | zero => simp at hk; subst hk; exact .row
    | succ k => simp at hk
end ops
end Go.Abs
