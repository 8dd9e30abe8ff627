/- The single operations over abstract values. -/
import Derived.Test.YtanfmpkjcoolmaaAbsA
import Derived.Laws.CopyRow
import Derived.Laws.Tables
set_option linter.unusedVariables false
set_option linter.unusedSimpArgs false
namespace Go.Abs
variable {P : Program} {N : Nat} {ops : Array Oper} {l : List Oper} {Q : Exit → Tm → List Ob → Prop} {tm : Tm} {S : List Ob}

theorem put_same (tm : Tm) (i : Nat) (d : D) : put tm i d i = d := by simp [put]
theorem put_other (tm : Tm) {i j : Nat} (d : D) (h : j ≠ i) : put tm i d j = tm j := by
  unfold put
  cases hb : Nat.beq j i with
  | true => exact absurd (Nat.eq_of_beq_eq_true hb) h
  | false => rfl

theorem St.later {g g' : G} {a : Act} {w w' : World} {S' : List Ob} (st : St N g tm S a w) (hl : Later g w g' w') (hs : Sim g' w' S') : St N g' tm S' a w' :=
  ⟨st.size, by rw [hl.2.base]; exact Nat.le_trans st.based hl.2.size, st.once, fun d hd => by
    obtain ⟨b, e, h1, h2, h3⟩ := st.defers d hd
    obtain ⟨k1, k2, k3⟩ := hl.2.old b (Array.getElem?_eq_some_iff.1 h3).1 h2
    exact ⟨b, e, by rw [hl.2.base]; exact h1, k3, k1.trans h3⟩, fun i => (st.slots i).mono hl.1, hs⟩

theorem St.put {g : G} {a : Act} {w : World} (st : St N g tm S a w) {o : Option Nat} (ho : ∀ t, o = some t → t < N) {v : Value} {d : D} (hr : Rep g w v d) : St N g (putO tm o d) S (a.put o v) w := by
  cases o with
  | none => exact st
  | some t =>
    have ht := ho t rfl
    refine ⟨by simp [Act.put, st.size], st.based, st.once, st.defers, fun i => ?_, st.sim⟩
    have hsz := st.size
    simp only [Act.put, putO]
    by_cases e : i = t
    · subst e
      rw [put_same]
      have : (a.tmps.setIfInBounds i v).getD i undef = v := by simp [Array.getD, hsz, ht]
      rw [this]
      exact hr
    · rw [put_other _ _ e]
      have : (a.tmps.setIfInBounds t v).getD i undef = a.tmps.getD i undef := by
        simp only [Array.getD_eq_getD_getElem?]
        rw [Array.getElem?_setIfInBounds_ne (by omega)]
      rw [this]
      exact st.slots i

/-- May the slot be written? -/
def dstOk (N : Nat) : Option Nat → Bool
  | some t => Nat.blt t N
  | none => true
theorem dstOk_lt {o : Option Nat} (h : dstOk N o = true) : ∀ t, o = some t → t < N := by
  rintro t rfl
  have : Nat.blt t N = true := h
  exact Nat.lt_of_succ_le (Nat.le_of_ble_eq_true this)

theorem AOps.nil (h : Q .normal tm S) : AOps P N ops [] Q tm S := fun ro g a w st => ⟨g, tm, S, h, st, .refl g w⟩

theorem AOps.value {o : Oper} (hg : o.guard = none) (hd : dstOk N o.dst = true) {d : D} {S' : List Ob}
    (h : ∀ g a w, St N g tm S a w → ∃ v g' w', (execOp a.eval o).run P w = .ok (.value v) w' ∧ Rep g' w' v d ∧ Sim g' w' S' ∧ Later g w g' w')
    (rest : AOps P N ops l Q (putO tm o.dst d) S') : AOps P N ops (o :: l) Q tm S := fun ro g a w st => by
  obtain ⟨v, g', w', hr, hrep, hsim, hl⟩ := h g a w st
  unfold wpListIn
  rw [if_pos (by simp [Region.wanted, hg])]
  refine ⟨about_wide, ?_⟩
  rw [run_semAt hr (fun _ e => by cases e)]
  exact wpList_mono (fun e a' w2 k => Post.later hl k) _ _ _ (rest ro g' _ w' ((st.later hl hsim).put (dstOk_lt hd) hrep))

theorem AOps.unit {o : Oper} (hg : o.guard = none) (hd : dstOk N o.dst = true) {S' : List Ob}
    (h : ∀ g a w, St N g tm S a w → ∃ g' w', (execOp a.eval o).run P w = .ok .skip w' ∧ Sim g' w' S' ∧ Later g w g' w')
    (rest : AOps P N ops l Q (putO tm o.dst .any) S') : AOps P N ops (o :: l) Q tm S := fun ro g a w st => by
  obtain ⟨g', w', hr, hsim, hl⟩ := h g a w st
  unfold wpListIn
  rw [if_pos (by simp [Region.wanted, hg])]
  refine ⟨about_wide, ?_⟩
  rw [run_semAt hr (fun _ e => by cases e)]
  exact wpList_mono (fun e a' w2 k => Post.later hl k) _ _ _ (rest ro g' _ w' ((st.later hl hsim).put (dstOk_lt hd) (.any _)))

/-- A value that leaves the world as it was. -/
theorem AOps.still {o : Oper} (hg : o.guard = none) (hd : dstOk N o.dst = true) {d : D}
    (h : ∀ g a w, St N g tm S a w → ∃ v, (execOp a.eval o).run P w = .ok (.value v) w ∧ Rep g w v d)
    (rest : AOps P N ops l Q (putO tm o.dst d) S) : AOps P N ops (o :: l) Q tm S :=
  AOps.value hg hd (fun g a w st => let ⟨v, hr, hrep⟩ := h g a w st; ⟨v, g, w, hr, hrep, st.sim, .refl g w⟩) rest

/-- A guard: both ways. -/
theorem AOps.guard {dst : Option Tmp} {op : Op} {ty : TypeId} {pos : String} {after : Array Edge} {j : Nat} {want : Bool} {t : Nat} {b : Bool}
    (hj : (ops[j]?).bind (·.dst) = some t) (hd : dstOk N dst = true) (ht : dstOk N (some t) = true) (hb : tm t = .val (.bool b))
    (hyes : b = want → AOps P N ops (⟨dst, op, ty, pos, after, none⟩ :: l) Q tm S) (hno : b = !want → AOps P N ops l Q (putO tm dst .any) S) :
    AOps P N ops (⟨dst, op, ty, pos, after, some (j, want)⟩ :: l) Q tm S := fun ro g a w st => by
  have hlt := dstOk_lt ht t rfl
  have hv := st.slots t
  rw [hb] at hv
  generalize hvv : a.tmps.getD t undef = v at hv
  cases hv
  have hy : yielded ops a.tmps j = some b := by
    unfold yielded
    rw [hj]
    have hsz := st.size
    have : a.tmps[t]? = some (.bool b) := by
      rw [Array.getD_eq_getD_getElem?] at hvv
      have hl : t < a.tmps.size := by omega
      rw [Array.getElem?_eq_getElem hl] at hvv ⊢
      simpa using hvv
    simp [this]
  by_cases e : b = want
  · have k := hyes e ro g a w st
    unfold wpListIn at k ⊢
    rw [if_pos (by simp [Region.wanted])] at k
    rw [if_pos (by simp [Region.wanted, hy, e])]
    exact ⟨k.1, by rw [show (⟨dst, op, ty, pos, after, some (j, want)⟩ : Oper).semAt (wideR ro).round a.eval = (⟨dst, op, ty, pos, after, none⟩ : Oper).semAt (wideR ro).round a.eval from by unfold Oper.semAt; rfl]; exact k.2⟩
  · unfold wpListIn
    rw [if_neg (by simp [Region.wanted, hy, e])]
    exact ⟨about_wide, hno (by cases b <;> cases want <;> simp_all) ro g _ w (st.put (dstOk_lt hd) (.any _))⟩

section plain
variable {dst : Option Tmp} {ty : TypeId} {pos : String} {after : Array Edge}

theorem op_move {x : Operand} (hd : dstOk N dst = true) (rest : AOps P N ops l Q (putO tm dst (ev tm x)) S) : AOps P N ops (⟨dst, .move x, ty, pos, after, none⟩ :: l) Q tm S :=
  .still rfl hd (fun g a w st => ⟨a.eval x, rfl, st.ev x⟩) rest
theorem op_assign {x : Operand} (hd : dstOk N dst = true) (rest : AOps P N ops l Q (putO tm dst (ev tm x)) S) : AOps P N ops (⟨dst, .assign x, ty, pos, after, none⟩ :: l) Q tm S :=
  .still rfl hd (fun g a w st => ⟨a.eval x, rfl, st.ev x⟩) rest

theorem Rep.val_inv {g : G} {w : World} {v v' : Value} (h : Rep g w v (.val v')) : v = v' := by cases h; rfl

theorem op_pick {c x y : Operand} {b : Bool} (hc : ev tm c = .val (.bool b)) (hd : dstOk N dst = true) (rest : AOps P N ops l Q (putO tm dst (bif b then ev tm x else ev tm y)) S) : AOps P N ops (⟨dst, .pick c x y, ty, pos, after, none⟩ :: l) Q tm S :=
  .still rfl hd (fun g a w st => by
    have h := st.ev c
    rw [hc] at h
    have e := h.val_inv
    refine ⟨if b then a.eval x else a.eval y, by simp [execOp, e, asBool], ?_⟩
    cases b
    · exact st.ev y
    · exact st.ev x) rest

/-- The value itself, where it is known. -/
def exactL : List D → Option (List Value)
  | [] => some []
  | .val v :: r => (exactL r).map (v :: ·)
  | _ => none
def D.exact : D → Option Value
  | .val v => some v
  | .agg ds => (exactL ds).map fun vs => .agg vs.toArray
  | _ => none
theorem exactL_rep {g : G} {w : World} : ∀ {ds : List D} {vs : List Value}, exactL ds = some vs → ∀ {us : List Value}, us.length = ds.length → (∀ (i : Nat) (v : Value) (d : D), us[i]? = some v → ds[i]? = some d → Rep g w v d) → us = vs
  | [], vs, h, us, hl, _ => by
    simp only [exactL, Option.some.injEq] at h
    subst h
    exact List.eq_nil_of_length_eq_zero hl
  | .val v :: r, vs, h, us, hl, hr => by
    simp only [exactL, Option.map_eq_some_iff] at h
    obtain ⟨vs', h', rfl⟩ := h
    cases us with
    | nil => simp at hl
    | cons u us =>
      have e := (hr 0 u (.val v) rfl rfl).val_inv
      subst e
      rw [exactL_rep h' (us := us) (by simpa using hl) (fun i v d h1 h2 => hr (i + 1) v d (by simpa using h1) (by simpa using h2))]
  | .any :: r, vs, h, us, hl, hr => by simp [exactL] at h
  | .sl .. :: r, vs, h, us, hl, hr => by simp [exactL] at h
  | .rp .. :: r, vs, h, us, hl, hr => by simp [exactL] at h
  | .bp .. :: r, vs, h, us, hl, hr => by simp [exactL] at h
  | .bs .. :: r, vs, h, us, hl, hr => by simp [exactL] at h
  | .agg .. :: r, vs, h, us, hl, hr => by simp [exactL] at h
  | .tup .. :: r, vs, h, us, hl, hr => by simp [exactL] at h
  | .fn .. :: r, vs, h, us, hl, hr => by simp [exactL] at h
theorem exact_rep {g : G} {w : World} {v v' : Value} {d : D} (h : d.exact = some v') (r : Rep g w v d) : v = v' := by
  cases r with
  | val v => simpa [D.exact] using h
  | agg hs hrep =>
    simp only [D.exact, Option.map_eq_some_iff] at h
    obtain ⟨vs, h, rfl⟩ := h
    rename_i us ds
    have := exactL_rep h (us := us.toList) (by simpa using hs) (fun i v d h1 h2 => hrep i v d (by simpa using h1) h2)
    rw [← this]
  | _ => simp [D.exact] at h

theorem op_bin {bop : BinOp} {xT yT : TypeId} {x y : Operand} {vx vy v : Value} (hd : dstOk N dst = true) (hx : (ev tm x).exact = some vx) (hy : (ev tm y).exact = some vy)
    (hrun : ∀ w : World, (do eqGuard bop xT x y vx vy; binOp bop xT vx vy : Sem Value).run P w = .ok v w)
    (rest : AOps P N ops l Q (putO tm dst (.val v)) S) : AOps P N ops (⟨dst, .binOp bop xT x y yT, ty, pos, after, none⟩ :: l) Q tm S :=
  .still rfl hd (fun g a w st => by
    have ex := exact_rep hx (st.ev x)
    have ey := exact_rep hy (st.ev y)
    refine ⟨v, ?_, .val v⟩
    have := hrun w
    simp only [execOp, ex, ey]
    rw [Sem.run_bind, this]
    rfl) rest

theorem op_un {uop : UnOp} {xT : TypeId} {x : Operand} {vx v : Value} (hd : dstOk N dst = true) (hx : (ev tm x).exact = some vx)
    (hrun : ∀ w : World, (Op.unary uop vx).run P w = .ok v w)
    (rest : AOps P N ops l Q (putO tm dst (.val v)) S) : AOps P N ops (⟨dst, .unOp uop xT x, ty, pos, after, none⟩ :: l) Q tm S :=
  .still rfl hd (fun g a w st => by
    have ex := exact_rep hx (st.ev x)
    refine ⟨v, ?_, .val v⟩
    have := hrun w
    simp only [execOp, ex]
    rw [Sem.run_bind, this]
    rfl) rest

theorem op_conv {src dT : TypeId} {x : Operand} {vx v : Value} (hd : dstOk N dst = true) (hx : (ev tm x).exact = some vx)
    (hrun : ∀ w : World, (convert src dT vx).run P w = .ok v w)
    (rest : AOps P N ops l Q (putO tm dst (.val v)) S) : AOps P N ops (⟨dst, .convert src dT x, ty, pos, after, none⟩ :: l) Q tm S :=
  .still rfl hd (fun g a w st => by
    have ex := exact_rep hx (st.ev x)
    refine ⟨v, ?_, .val v⟩
    have := hrun w
    simp only [execOp, ex]
    rw [Sem.run_bind, this]
    rfl) rest

theorem op_extract {x : Operand} {i : Nat} {ds : List D} {d : D} (hd : dstOk N dst = true) (hx : ev tm x = .tup ds) (hi : ds[i]? = some d)
    (rest : AOps P N ops l Q (putO tm dst d) S) : AOps P N ops (⟨dst, .extract x i, ty, pos, after, none⟩ :: l) Q tm S :=
  .still rfl hd (fun g a w st => by
    have h := st.ev x
    rw [hx] at h
    generalize hv : a.eval x = v at h
    cases h with
    | tup hs hrep =>
      rename_i vs
      have hlt : i < vs.size := by rw [hs]; exact (List.getElem?_eq_some_iff.1 hi).1
      refine ⟨vs[i], ?_, hrep i _ d (Array.getElem?_eq_getElem hlt) hi⟩
      simp [execOp, hv, Instr.extract, hlt]) rest

def D.ptr : D → Bool
  | .bp .. | .rp .. => true
  | .fn (.func _) _ _ => true
  | _ => false
theorem op_nilCheck {x : Operand} (hd : dstOk N dst = true) (hx : (ev tm x).ptr = true) (rest : AOps P N ops l Q (putO tm dst (ev tm x)) S) : AOps P N ops (⟨dst, .nilCheck x, ty, pos, after, none⟩ :: l) Q tm S :=
  .still rfl hd (fun g a w st => by
    have h := st.ev x
    refine ⟨a.eval x, ?_, h⟩
    revert h hx
    generalize hdx : ev tm x = d
    generalize hvx : a.eval x = v
    intro hx h
    cases h with
    | rp f hcell hrep => simp [execOp, hvx]
    | bp e => simp [execOp, hvx]
    | fn hs hs' h1 h2 =>
      rename_i f fi ca dfi dca
      cases f <;> simp [D.ptr] at hx
      simp [execOp, hvx]
    | _ => simp [D.ptr] at hx) rest

theorem op_makeFunc {f : Fn} {first caps : Array Operand} (hd : dstOk N dst = true) (rest : AOps P N ops l Q (putO tm dst (.fn f (first.toList.map (ev tm)) (caps.toList.map (ev tm)))) S) :
    AOps P N ops (⟨dst, .makeFunc f first caps, ty, pos, after, none⟩ :: l) Q tm S :=
  .still rfl hd (fun g a w st => by
    refine ⟨.func f (first.map a.eval) (caps.map a.eval), by simp [execOp, Instr.makeFunc], ?_⟩
    refine .fn (by simp) (by simp) ?_ ?_
    · intro i v d h1 h2
      simp only [Array.getElem?_map, Option.map_eq_some_iff] at h1
      simp only [List.getElem?_map, Array.getElem?_toList, Option.map_eq_some_iff] at h2
      obtain ⟨o1, e1, rfl⟩ := h1
      obtain ⟨o2, e2, rfl⟩ := h2
      rw [e1] at e2; cases e2
      exact st.ev o1
    · intro i v d h1 h2
      simp only [Array.getElem?_map, Option.map_eq_some_iff] at h1
      simp only [List.getElem?_map, Array.getElem?_toList, Option.map_eq_some_iff] at h2
      obtain ⟨o1, e1, rfl⟩ := h1
      obtain ⟨o2, e2, rfl⟩ := h2
      rw [e1] at e2; cases e2
      exact st.ev o1) rest
end plain
end Go.Abs
