/- Cuts of slices; nil; values that are built; append. -/
import Derived.Test.YtanfmpkjcoolmaaAbsD
import Derived.WalkSpells
import Derived.Lib.SliceRun
set_option linter.unusedVariables false
set_option linter.unusedSimpArgs false
namespace Go.Abs
variable {P : Program} {N : Nat} {ops : Array Oper} {l : List Oper} {Q : Exit → Tm → List Ob → Prop} {tm : Tm} {S : List Ob}

/-- A bound of a cut. -/
def SB (tm : Tm) (o : Option Operand) (dflt k : Nat) : Prop :=
  match o with
  | none => k = dflt
  | some x => ∃ kd n, ev tm x = .val (.int kd n) ∧ n = (k : Int)
theorem SB.none {dflt : Nat} : SB tm none dflt dflt := rfl
theorem SB.some {x : Operand} {dflt k : Nat} {kd : IntKind} {n : Int} (h : ev tm x = .val (.int kd n)) (hn : n = (k : Int)) : SB tm (some x) dflt k := ⟨kd, n, h, hn⟩

theorem run_sliceBound (kd : IntKind) (k y : Nat) (code : BoundsCode) (h : k ≤ y) (w : World) : (Instr.sliceBound (.int kd (k : Int)) y code).run P w = .ok k w := by
  have : (0 : Int) ≤ (k : Int) ∧ (k : Int) ≤ (y : Int) := ⟨by omega, by omega⟩
  simp [Instr.sliceBound, asIntOf, this]

theorem cut_rep {g : G} {w : World} {ao : Option Addr} {n cap : Nat} {nl : Option Bool} {xs : List (List D)} {c : Cap} (r : Rep g w (.slice ao n cap) (.sl nl xs c)) {sz lo hi m : Nat}
    (h1 : lo ≤ hi) (h2 : hi ≤ xs.length) (h3 : hi ≤ m) (hm : m ≤ cap) (hsz : ∀ x ∈ xs, x.length = sz) {c' : Cap} (hc' : c' = .ro ∨ c' = .full ∧ m = hi) :
    Rep g w (.slice (if m = lo then ao else ao.map (·.add (lo * sz))) (hi - lo) (m - lo)) (.sl nl ((xs.take hi).drop lo) c') := by
  cases r with
  | sl st f hn hcap hnone hnl hst hcell hrep hc =>
    have hlen : ((xs.take hi).drop lo).length = hi - lo := by simp; omega
    have hget : ∀ (i : Nat) (x : List D), ((xs.take hi).drop lo)[i]? = some x → xs[lo + i]? = some x ∧ lo + i < hi := by
      intro i x h
      rw [List.getElem?_drop, List.getElem?_take] at h
      split at h
      · rename_i hh; exact ⟨h, hh⟩
      · cases h
    refine .sl sz (fun i j => f (lo + i) j) hlen (by omega) ?_ ?_ ?_ ?_ ?_ ?_
    · intro e
      split at e
      · rename_i hml
        have := hnone e; omega
      · cases ao with
        | none => have := hnone rfl; omega
        | some ad => simp at e
    · intro b hb
      have := hnl b hb
      split
      · exact this
      · simpa using this
    · intro x hx
      exact hsz x (List.mem_of_mem_take (List.mem_of_mem_drop hx))
    · intro i x hx j d hd
      obtain ⟨h, hlt⟩ := hget i x hx
      obtain ⟨ad, e, hat⟩ := hcell _ x h j d hd
      have hst' : st = sz := by rw [← hst x (List.mem_of_getElem? h), hsz x (List.mem_of_getElem? h)]
      subst hst'
      refine ⟨ad.add (lo * st), ?_, ?_⟩
      · rw [if_neg (by omega), e]; rfl
      · rw [add_add, ← Nat.add_assoc, ← Nat.add_mul]
        exact hat
    · intro i x hx j d hd
      exact hrep _ x (hget i x hx).1 j d hd
    · rcases hc' with rfl | ⟨rfl, rfl⟩
      · trivial
      · show m - lo = m - lo; rfl

section ops
variable {dst : Option Tmp} {ty : TypeId} {pos : String} {after : Array Edge}

theorem op_slice {t e : TypeId} {x : Operand} {lo hi : Option Operand} {sz k h : Nat} {ag : Bool} {nl : Option Bool} {xs : List (List D)} {c : Cap} (hd : dstOk N dst = true)
    (hu : P.underlying t = some (.slice e)) (ht : TI P e sz ag) (hx : ev tm x = .sl nl xs c) (hhi : SB tm hi xs.length h) (hlo : SB tm lo 0 k) (h1 : k ≤ h) (h2 : h ≤ xs.length) (hsz : ∀ y ∈ xs, y.length = sz)
    (rest : AOps P N ops l Q (putO tm dst (.sl nl ((xs.take h).drop k) .ro)) S) : AOps P N ops (⟨dst, .slice t x lo hi none, ty, pos, after, none⟩ :: l) Q tm S :=
  .still rfl hd (fun g a w st => by
    have r := st.ev x
    rw [hx] at r
    generalize hvx : a.eval x = v at r
    obtain ⟨ao, n, cap, rfl, hn, hcap⟩ : ∃ ao n cap, v = .slice ao n cap ∧ xs.length = n ∧ n ≤ cap := by cases r with | sl st f hn hcap => exact ⟨_, _, _, rfl, hn, hcap⟩
    refine ⟨_, ?_, cut_rep r h1 h2 (by omega : h ≤ cap) (Nat.le_refl _) hsz (.inl rfl)⟩
    have hbl : ∀ w, (Instr.sliceBounds true n cap (lo.map a.eval) (hi.map a.eval) none).run P w = .ok (k, h, cap) w := by
      intro w
      cases hi with
      | none =>
        simp only [SB] at hhi
        cases lo with
        | none => simp only [SB] at hlo; simp [Instr.sliceBounds, hhi, hlo, hn]
        | some y =>
          obtain ⟨kd, m, e1, e2⟩ := hlo
          have ey := st.ev y; rw [e1] at ey; have ey := ey.val_inv; subst e2
          simp [Instr.sliceBounds, hhi, hn, ey, run_sliceBound kd k n _ (by omega : k ≤ n)]
      | some z =>
        obtain ⟨kd', m', e1', e2'⟩ := hhi
        have ez := st.ev z; rw [e1'] at ez; have ez := ez.val_inv; subst e2'
        cases lo with
        | none => simp only [SB] at hlo; simp [Instr.sliceBounds, hlo, ez, run_sliceBound kd' h cap _ (by omega : h ≤ cap)]
        | some y =>
          obtain ⟨kd, m, e1, e2⟩ := hlo
          have ey := st.ev y; rw [e1] at ey; have ey := ey.val_inv; subst e2
          simp [Instr.sliceBounds, ez, ey, run_sliceBound kd' h cap _ (by omega : h ≤ cap), run_sliceBound kd k h _ h1]
    simp [execOp, hvx, Instr.sliceAt, Instr.slice, run_underlying hu, hbl, ht.sizeOf]) rest

theorem op_slice3 {t e : TypeId} {x : Operand} {lo : Option Operand} {hi mx : Operand} {sz k h : Nat} {ag : Bool} {nl : Option Bool} {xs : List (List D)} {c : Cap} (hd : dstOk N dst = true)
    (hu : P.underlying t = some (.slice e)) (ht : TI P e sz ag) (hx : ev tm x = .sl nl xs c) (hhi : SB tm (some hi) 0 h) (hmx : SB tm (some mx) 0 h) (hlo : SB tm lo 0 k) (h1 : k ≤ h) (h2 : h ≤ xs.length) (hsz : ∀ y ∈ xs, y.length = sz)
    (rest : AOps P N ops l Q (putO tm dst (.sl nl ((xs.take h).drop k) .full)) S) : AOps P N ops (⟨dst, .slice t x lo (some hi) (some mx), ty, pos, after, none⟩ :: l) Q tm S :=
  .still rfl hd (fun g a w st => by
    have r := st.ev x
    rw [hx] at r
    generalize hvx : a.eval x = v at r
    obtain ⟨ao, n, cap, rfl, hn, hcap⟩ : ∃ ao n cap, v = .slice ao n cap ∧ xs.length = n ∧ n ≤ cap := by cases r with | sl st f hn hcap => exact ⟨_, _, _, rfl, hn, hcap⟩
    refine ⟨_, ?_, cut_rep r h1 h2 (Nat.le_refl h) (by omega : h ≤ cap) hsz (.inr ⟨rfl, rfl⟩)⟩
    obtain ⟨kd', m', e1', e2'⟩ := hhi
    have ez := st.ev hi; rw [e1'] at ez; have ez := ez.val_inv; subst e2'
    obtain ⟨kd2, m2, e12, e22⟩ := hmx
    have em := st.ev mx; rw [e12] at em; have em := em.val_inv; subst e22
    have hbl : ∀ w, (Instr.sliceBounds true n cap (lo.map a.eval) (some (a.eval hi)) (some (a.eval mx))).run P w = .ok (k, h, h) w := by
      intro w
      cases lo with
      | none => simp only [SB] at hlo; simp [Instr.sliceBounds, hlo, ez, em, run_sliceBound kd' h h _ (Nat.le_refl h), run_sliceBound kd2 h cap _ (by omega : h ≤ cap)]
      | some y =>
        obtain ⟨kd, m, e1, e2⟩ := hlo
        have ey := st.ev y; rw [e1] at ey; have ey := ey.val_inv; subst e2
        simp [Instr.sliceBounds, ez, ey, em, run_sliceBound kd' h h _ (Nat.le_refl h), run_sliceBound kd2 h cap _ (by omega : h ≤ cap), run_sliceBound kd k h _ h1]
    simp [execOp, hvx, Instr.sliceAt, Instr.slice, run_underlying hu, hbl, ht.sizeOf]) rest

theorem op_eqnil {bop : BinOp} {neg : Bool} (hop : bop = bif neg then .neq else .eql) {xT yT e : TypeId} {x : Operand} {nl : Option Bool} {xs : List (List D)} {c : Cap} (hd : dstOk N dst = true) (hu : P.underlying xT = some (.slice e)) (hx : ev tm x = .sl nl xs c)
    (rest : ∀ b, (∀ b', nl = some b' → b = b') → (b = true → xs = []) → AOps P N ops l Q (putO tm dst (.val (.bool (xor neg b)))) S) : AOps P N ops (⟨dst, .binOp bop xT x (.const (.slice none 0 0)) yT, ty, pos, after, none⟩ :: l) Q tm S := fun ro g a w st => by
  have r := st.ev x
  rw [hx] at r
  generalize hvx : a.eval x = v at r
  cases r with
  | sl st' f hn hcap hnone hnl hst hcell hrep hc =>
    rename_i ao n cap
    have hxs : ao.isNone = true → xs = [] := by
      intro h
      have : ao = none := by simpa using h
      have := hnone this
      exact List.eq_nil_of_length_eq_zero (by omega)
    have k := rest ao.isNone (fun b' e => hnl b' e) hxs
    have run : (execOp a.eval (⟨dst, .binOp bop xT x (.const (.slice none 0 0)) yT, ty, pos, after, none⟩ : Oper)).run P w = .ok (.value (.bool (xor neg ao.isNone))) w := by
      subst hop
      have e0 : a.eval (.const (.slice none 0 0)) = .slice none 0 0 := rfl
      have k1 := Lib.run_eql_slice_nil (P := P) w xT e ao n cap 0 0 hu
      have k2 := run_neq_slice_nil_any (P := P) w xT e ao n cap 0 0 hu
      cases neg
      · simp only [execOp, hvx, e0, cond_false, eqGuard_at_slice, Sem.run_bind, Sem.run_pure, Result.andThen_ok, k1, Bool.false_xor]
      · simp only [execOp, hvx, e0, cond_true, eqGuard_at_slice, Sem.run_bind, Sem.run_pure, Result.andThen_ok, k2, Bool.true_xor]
    unfold wpListIn
    rw [if_pos (by simp [Region.wanted])]
    refine ⟨about_wide, ?_⟩
    rw [run_semAt run (fun _ e => by cases e)]
    exact k ro g _ w (st.put (dstOk_lt hd) (.val _))

theorem op_ptrnil {bop : BinOp} {neg : Bool} (hop : bop = bif neg then .neq else .eql) {xT yT e : TypeId} {x : Operand} (hd : dstOk N dst = true) (hu : P.underlying xT = some (.pointer e)) (hx : (ev tm x).loc = true)
    (rest : AOps P N ops l Q (putO tm dst (.val (.bool neg))) S) : AOps P N ops (⟨dst, .binOp bop xT x (.const (.pointer none)) yT, ty, pos, after, none⟩ :: l) Q tm S :=
  .still rfl hd (fun g a w st => by
    refine ⟨_, ?_, .val _⟩
    have : ∃ ad, a.eval x = .pointer (some ad) := by
      have r := st.ev x
      revert hx
      generalize ev tm x = d at r ⊢
      generalize a.eval x = v at r ⊢
      intro hx
      cases r with
      | bp => exact ⟨_, rfl⟩
      | rp => exact ⟨_, rfl⟩
      | _ => simp [D.loc] at hx
    obtain ⟨ad, hv⟩ := this
    subst hop
    have e0 : a.eval (.const (.pointer none)) = .pointer none := rfl
    have hp : P.underlying xT = some (.pointer (P.pointee xT)) := by rw [hu]; simp [Program.pointee, hu]
    have k1 := run_eql_pointer_nil (P := P) w xT (some ad) hp
    have k2 := run_neq_pointer_nil (P := P) w xT (some ad) hp
    cases neg
    · simp only [execOp, hv, e0, cond_false, eqGuard_at_pointer, Sem.run_bind, Sem.run_pure, Result.andThen_ok, k1, Option.isNone_some]
    · simp only [execOp, hv, e0, cond_true, eqGuard_at_pointer, Sem.run_bind, Sem.run_pure, Result.andThen_ok, k2, Option.isNone_some, Bool.not_false]) rest
end ops
end Go.Abs
