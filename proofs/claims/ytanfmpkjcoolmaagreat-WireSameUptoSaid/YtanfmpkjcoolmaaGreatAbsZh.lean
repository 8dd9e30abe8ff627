/- Calls that only read what is lent; slices written in place, as results; their end. -/
import Derived.Test.YtanfmpkjcoolmaaGreatAbsZg
set_option linter.unusedVariables false
set_option linter.unusedSimpArgs false
namespace Go.Abs
variable {P : Program} {N : Nat} {ops : Array Oper} {l : List Oper} {Q : Exit → Tm → List Ob → Prop} {tm : Tm} {S : List Ob}
inductive PeekAll (l : Nat) (cs : List D) : List D → List D → Prop
  | nil : PeekAll l cs [] []
  | cons {a b : D} {as bs : List D} (h : Peek l cs a b) (t : PeekAll l cs as bs) : PeekAll l cs (a :: as) (b :: bs)
theorem PeekAll.length {l : Nat} {cs as bs : List D} (h : PeekAll l cs as bs) : as.length = bs.length := by
  induction h with
  | nil => rfl
  | cons h t ih => simp [ih]
theorem PeekAll.get {l : Nat} {cs as bs : List D} (h : PeekAll l cs as bs) : ∀ (i : Nat) (x y : D), as[i]? = some x → bs[i]? = some y → Peek l cs x y := by
  induction h with
  | nil => intro i x y h; simp at h
  | cons h t ih =>
    intro i x y h1 h2
    cases i with
    | zero => simp at h1 h2; subst h1; subst h2; exact h
    | succ i => exact ih i x y (by simpa using h1) (by simpa using h2)
section ops
variable {t : Tmp} {ty : TypeId} {pos : String} {after : Array Edge}
/-- A call that hands back a slice of a new block. -/
theorem n_callNewBs {fo : Operand} {as : Array Operand} {ts : Array TypeId} {f : FuncId} {fi ca args : List D} {ds : List D} {bs : List D} {k n : Nat} {S' : List Ob} (hd : Nat.blt t N = true) (hcf : CF P f) (hf : ev tm fo = .fn (.func f) fi ca)
    (ha : fi ++ as.toList.map (ev tm) ++ ca = args) (hargs : RenAll (fun _ _ => False) (fun _ _ => False) args ds) (h : Does P f ds [] (.bs 0 0 k) [.box bs]) (hx : ∀ d ∈ bs, LF d) (hn : S.length = n) (hS : S ++ [.box bs] = S')
    (rest : AOps P N ops l Q (put tm t (.bs n 0 k)) S') : AOps P N ops (⟨some t, .call ⟨.value fo, as, ts⟩, ty, pos, after, none⟩ :: l) Q tm S := by
  subst hn hS
  refine op_callG (dst := some t) hd hcf hf h (ι := []) List.nodup_nil rfl (fun j ob' hj => by simp at hj) ?_ (by simp) (by simp) (fun l hl _ => by rw [List.getElem?_append_left hl]) (fun j l hj => by simp at hj)
    (fun k ob hk => ?_) (.bs (.inr ⟨Nat.zero_le _, rfl⟩)) rest
  · rw [ha]
    exact hargs.mono (fun _ _ h => h.elim) (fun _ _ h => h.elim)
  · rw [List.getElem?_append_right (by omega), Nat.add_sub_cancel_left] at hk
    refine ⟨ob, by simpa using hk, ?_⟩
    cases k with
    | zero => simp at hk; subst hk; exact .box rfl (lf_pair hx)
    | succ k => simp at hk
theorem n_append_box {tt tx e e' : TypeId} {x y : Operand} {sz bytes m n : Nat} {z : Value} {nl nl' : Option Bool} {xs ys : List (List D)} {c' : Cap} {cs : List D} {S' : List Ob} (hd : Nat.blt t N = true) (hu : P.underlying tt = some (.slice e)) (hux : P.underlying tx = some (.slice e')) (he : EI P e sz bytes z)
    (hx : ev tm x = .sl nl xs .full) (hy : ev tm y = .sl nl' ys c') (hsx : ∀ x ∈ xs, x.length = sz) (hsy : ∀ x ∈ ys, x.length = sz) (hroom : (xs.length + ys.length) * bytes ≤ 140737488355328) (hpos : 0 < ys.length) (hm : xs.length + ys.length = m) (hcs : (xs ++ ys).flatten = cs) (hn : S.length = n) (hS : S ++ [.box cs] = S')
    (rest : AOps P N ops l Q (put tm t (.bs n 0 m)) S') : AOps P N ops (⟨some t, .call ⟨.builtin .append, #[x, y], #[tt, tx]⟩, ty, pos, after, none⟩ :: l) Q tm S := by
  subst hm hcs hn hS
  exact op_append_box (dst := some t) hd hu hux he hx hy hsx hsy hroom hpos rest
theorem n_bsLen {tt e : TypeId} {x : Operand} {l0 o n : Nat} (hd : Nat.blt t N = true) (hu : P.underlying tt = some (.slice e)) (hx : ev tm x = .bs l0 o n)
    (rest : AOps P N ops l Q (put tm t (.val (.int .i64 (n : Int)))) S) : AOps P N ops (⟨some t, .call ⟨.builtin .len, #[x], #[tt]⟩, ty, pos, after, none⟩ :: l) Q tm S := op_bsLen (dst := some t) hd hu hx rest
theorem n_bsIndexAddr {tt e : TypeId} {x y : Operand} {sz q : Nat} {ag : Bool} {l0 o n : Nat} {k : IntKind} {i : Int} (hd : Nat.blt t N = true)
    (hu : P.underlying tt = some (.slice e)) (ht : TI P e sz ag) (hx : ev tm x = .bs l0 o n) (hy : ev tm y = .val (.int k i)) (h0 : 0 ≤ i) (hi : i < (n : Int)) (hq : o + i.toNat * sz = q)
    (rest : AOps P N ops l Q (put tm t (.bp l0 q)) S) : AOps P N ops (⟨some t, .indexAddr tt x y, ty, pos, after, none⟩ :: l) Q tm S := by
  subst hq; exact op_bsIndexAddr (dst := some t) hd hu ht hx hy h0 hi rest
end ops
/-- It hands back a slice of a new block. -/
theorem fin_newBs {rvs : List ResultVar} {ds : List D} {l k : Nat} {cs bs : List D} (h : RVs P tm S rvs ds) (hd : resD ds = .bs l 0 k) (hl : S[l]? = some (.box cs)) (hb : RenAll No No cs bs) :
    Fin P rvs 0 (.bs 0 0 k) [.box bs] .ret tm S := by
  refine ⟨.inr rfl, ds, [l], h, by rw [hd]; exact .bs rfl, by simp, fun j hj => absurd hj (by omega), rfl, fun j ob' h => ?_⟩
  cases j with
  | zero =>
    simp only [List.getElem?_cons_zero, Option.some.injEq] at h
    subst h
    exact ⟨l, _, rfl, hl, .box hb.length (hb.mono (fun _ _ h => h.elim) (fun _ _ h => h.elim)).get⟩
  | succ j => simp at h
end Go.Abs
