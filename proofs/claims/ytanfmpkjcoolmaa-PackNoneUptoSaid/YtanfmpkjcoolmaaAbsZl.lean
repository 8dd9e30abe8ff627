/- Rows that are made; calls that hand back a slice of a new block and write another one. -/
import Derived.Test.YtanfmpkjcoolmaaAbsZk
import Derived.Laws.MakeOwn
set_option linter.unusedVariables false
set_option linter.unusedSimpArgs false
namespace Go.Abs
variable {P : Program} {N : Nat} {ops : Array Oper} {l : List Oper} {Q : Exit → Tm → List Ob → Prop} {tm : Tm} {S : List Ob}
/-- The row L lies in a block that is made. -/
theorem make_sim {g : G} {w : World} (hs : Sim g w S) {S' : List Ob} {L need sz cap : Nat} (h1 : ∀ (l : Nat) (ob : Ob), S'[l]? = some ob → l = L ∧ ob = .row need sz ∨ l ≠ L ∧ S[l]? = some ob) (h2 : S.length ≤ S'.length) (h3 : L < S'.length)
    (hrow : ∀ n h, g.row L = some (n, h) → n < need) (hbox : ∀ ds, S[L]? ≠ some (.box ds)) (c : Array Value) (T : TypeId) (hcs : c.size = cap * sz) (hcap : need ≤ cap) :
    Sim (gGrow g L w.heap.size need (.slice (some ⟨w.heap.size, 0, none⟩) need cap) (need * sz)) (w.alloc (.cells c T)) S' ∧
    Later g w (gGrow g L w.heap.size need (.slice (some ⟨w.heap.size, 0, none⟩) need cap) (need * sz)) (w.alloc (.cells c T)) := by
  have hown : g.own w.heap.size = none := by
    cases h : g.own w.heap.size with
    | none => rfl
    | some l => exact absurd (hs.own _ _ h).2 (by omega)
  have heq : ∀ b, b < w.heap.size → (w.alloc (.cells c T)).heap[b]? = w.heap[b]? := fun b hb => heap_alloc_lt (w := w) hb
  have hnew : (w.alloc (.cells c T)).heap[w.heap.size]? = some (.cells c T) := heap_alloc_eq (w := w)
  have hle : Le g w (gGrow g L w.heap.size need (.slice (some ⟨w.heap.size, 0, none⟩) need cap) (need * sz)) (w.alloc (.cells c T)) := by
    refine ⟨?_, fun l b h => h, ?_⟩
    · rintro a v ⟨k1, k2, k3⟩
      have hb := cell_block k1
      refine ⟨(cell_same (heq _ hb)).trans k1, ?_, k3⟩
      simp only [gGrow]; rw [upd_other _ _ (by omega)]; exact k2
    · intro l n h e
      by_cases hl : l = L
      · subst hl
        exact ⟨need, .slice (some ⟨w.heap.size, 0, none⟩) need cap, by simp only [gGrow, upd_same], .inl (hrow n h e)⟩
      · exact ⟨n, h, by simp only [gGrow]; rw [upd_other _ _ hl]; exact e, .inr ⟨rfl, rfl⟩⟩
  have hkeep : ∀ b l, b < w.heap.size → g.own b = some l → (gGrow g L w.heap.size need (.slice (some ⟨w.heap.size, 0, none⟩) need cap) (need * sz)).own b = some l := by
    intro b l hb ho
    simp only [gGrow]; rw [upd_other _ _ (by omega)]; exact ho
  refine ⟨⟨?_, ?_, ?_, ?_, ?_⟩, hle, ?_⟩
  · intro l ob h
    rcases h1 l ob h with ⟨rfl, rfl⟩ | ⟨hl, h⟩
    · refine ⟨_, cap, by simp only [gGrow, upd_same], hcap, (fun e => by cases e), .inr ⟨w.heap.size, 0, c, T, rfl, by simp only [gGrow, upd_same], hnew, by omega, by simp only [gGrow, upd_same, Nat.zero_add]⟩⟩
    · refine (hs.obs l ob h).keep hle ⟨by show w.heap.size ≤ (w.alloc (.cells c T)).heap.size; rw [World.size_alloc]; omega, rfl, rfl, rfl⟩ ?_ (fun n x e => by simp only [gGrow]; rw [upd_other _ _ hl]; exact e) (fun e1 e2 => ⟨e1, by simp only [gGrow]; rw [upd_other _ _ hl]; exact e2⟩)
      intro b ho
      have hb := (hs.own b l ho).2
      exact ⟨heq b hb, by simp only [gGrow]; rw [upd_other _ _ (by omega)], hkeep b l hb ho⟩
  · intro l h; exact hs.noEta l (by omega)
  · intro l h
    simp only [gGrow]; rw [upd_other _ _ (by omega)]; exact hs.noRow l (by omega)
  · intro b l h
    show l < S'.length ∧ b < (w.alloc (.cells c T)).heap.size
    rw [World.size_alloc]
    simp only [gGrow] at h
    by_cases e : b = w.heap.size
    · subst e; rw [upd_same] at h; cases h; omega
    · rw [upd_other _ _ e] at h; have := hs.own b l h; omega
  · intro b h
    have h : (w.alloc (.cells c T)).heap.size ≤ b := h
    rw [World.size_alloc] at h
    simp only [gGrow]; rw [upd_other _ _ (by omega)]; exact hs.lim b (by omega)
  · refine ⟨?_, rfl, rfl, rfl, ?_, hkeep, rfl⟩
    · show w.heap.size ≤ (w.alloc (.cells c T)).heap.size
      rw [World.size_alloc]; omega
    · intro b hb ho
      refine ⟨heq b hb, by simp only [gGrow]; rw [upd_other _ _ (by omega)], by simp only [gGrow]; rw [upd_other _ _ (by omega)]; exact ho⟩


section ops
variable {t : Tmp} {ty : TypeId} {pos : String} {after : Array Edge}
theorem n_makeRow {tt e : TypeId} {x y : Operand} {sz bytes n cap : Nat} {z : Value} {S' : List Ob} (hd : Nat.blt t N = true) (hu : P.underlying tt = some (.slice e)) (he : EI P e sz bytes z)
    (hx : ev tm x = .val (.int .i64 0)) (hy : ev tm y = .val (.int .i64 (cap : Int))) (hroom : cap * bytes ≤ 140737488355328) (hn : S.length = n) (hS : S ++ [.row 0 sz] = S')
    (rest : AOps P N ops l Q (put tm t (.sl (some false) [] (.own n))) S') : AOps P N ops (⟨some t, .makeSlice tt x y, ty, pos, after, none⟩ :: l) Q tm S := by
  subst hn hS
  refine AOps.value (o := ⟨some t, .makeSlice tt x y, ty, pos, after, none⟩) rfl hd (d := D.sl (some false) [] (Cap.own S.length)) (S' := S ++ [Ob.row 0 sz]) (fun g a w st => ?_) rest
  obtain ⟨i, hi, hsz, hby, hz⟩ := he.info
  have hpos : 0 < bytes := Nat.lt_of_succ_le (Nat.le_of_ble_eq_true he.pos)
  have ex := st.ev x; rw [hx] at ex; have ex := ex.val_inv
  have ey := st.ev y; rw [hy] at ey; have ey := ey.val_inv
  have hcap : cap ≤ 140737488355328 := Nat.le_trans (Nat.le_mul_of_pos_right _ hpos) hroom
  obtain ⟨cells, hc1, hc2⟩ : ∃ cells : Array Value, cells.size = cap * sz ∧ (Instr.makeSlice tt (.int .i64 0) (.int .i64 (cap : Int))).run P w = .ok (.slice (some ⟨w.heap.size, 0, none⟩) 0 cap) (w.alloc (.cells cells e)) := by
    have hb' : (i.bytes : Int) * (cap : Int) ≤ 281474976710656 := by
      have e1 : (bytes : Int) * (cap : Int) = ((cap * bytes : Nat) : Int) := by rw [Int.mul_comm, Int.natCast_mul]
      rw [hby, e1]
      generalize cap * bytes = q at hroom
      omega
    have hr := run_make (P := P) w tt e i z hu hi hz .i64 .i64 0 cap (Int.le_refl _) (by omega) hb' (by omega)
    simp only [Int.toNat_zero, Int.toNat_natCast] at hr
    exact ⟨_, by rw [size_madeCells, hsz], hr⟩
  obtain ⟨k1, k2⟩ := make_sim (S' := S ++ [.row 0 sz]) (L := S.length) (need := 0) (sz := sz) (cap := cap) st.sim (fun l ob h => by
      rcases getElem?_snoc h with ⟨h, hlt⟩ | ⟨rfl, rfl⟩
      · exact .inr ⟨by omega, h⟩
      · exact .inl ⟨rfl, rfl⟩) (by simp) (by simp) (fun n' h k => by rw [st.sim.noRow _ (Nat.le_refl _)] at k; cases k) (fun ds k => by simp at k) cells e hc1 (Nat.zero_le _)
  refine ⟨.slice (some ⟨w.heap.size, 0, none⟩) 0 cap, _, _, ?_, ?_, k1, k2⟩
  · simp only [execOp, ex, ey, Sem.run_bind, hc2, Result.andThen_ok, Sem.run_pure]
  · exact .sl 0 (fun _ _ => undef) rfl (Nat.zero_le _) (fun e => by cases e) (fun b h => by cases h; rfl) (fun x h => by cases h) (fun i x h => by simp at h) (fun i x h => by simp at h) ⟨0, _, by simp only [gGrow, upd_same], Nat.le_refl _, fun _ => rfl⟩
theorem n_nileq {xT yT e : TypeId} {x : Operand} (hd : Nat.blt t N = true) (hu : P.underlying xT = some (.pointer e)) (hx : ev tm x = .val (.pointer none))
    (rest : AOps P N ops l Q (put tm t (.val (.bool true))) S) : AOps P N ops (⟨some t, .binOp .eql xT x (.const (.pointer none)) yT, ty, pos, after, none⟩ :: l) Q tm S :=
  n_bin (dx := .val (.pointer none)) (dy := .val (.pointer none)) hd hx rfl rfl rfl (fun w => by
    have hp : P.underlying xT = some (.pointer (P.pointee xT)) := by rw [hu]; simp [Program.pointee, hu]
    have k1 := run_eql_pointer_nil (P := P) w xT none hp
    simp only [eqGuard_at_pointer, Sem.run_bind, Sem.run_pure, Result.andThen_ok, k1, Option.isNone_none]) rest
/-- A call that writes a block and hands back a slice of a new one. -/
theorem n_callBoxNewBs {fo : Operand} {as : Array Operand} {ts : Array TypeId} {f : FuncId} {fi ca args : List D} {ds : List D} {l0 k n : Nat} {cs bs bs' xs : List D} {S' : List Ob} (hd : Nat.blt t N = true) (hcf : CF P f) (hf : ev tm fo = .fn (.func f) fi ca)
    (ha : fi ++ as.toList.map (ev tm) ++ ca = args) (hargs : RenAll (fun a b => a = l0 ∧ b = 0) (fun _ _ => False) args ds) (hl : S[l0]? = some (.box cs)) (hin : RenAll (fun _ _ => False) (fun _ _ => False) cs bs) (h : Does P f ds [.box bs] (.bs 1 0 k) [.box bs', .box xs]) (hx : ∀ d ∈ bs', LF d) (hxs : ∀ d ∈ xs, LF d) (hn : S.length = n) (hS : S.set l0 (.box bs') ++ [.box xs] = S')
    (rest : AOps P N ops l Q (put tm t (.bs n 0 k)) S') : AOps P N ops (⟨some t, .call ⟨.value fo, as, ts⟩, ty, pos, after, none⟩ :: l) Q tm S := by
  subst hS hn
  have hlt : l0 < S.length := (List.getElem?_eq_some_iff.1 hl).1
  refine op_callG (dst := some t) hd hcf hf h (ι := [l0]) (by simp) rfl (fun j ob' hj => ?_) ?_ (by simp) (by simp) (fun l hl hm => by rw [List.getElem?_append_left (by simpa using hl), List.getElem?_set_ne (by simp at hm; omega)]) (fun j l hj => ?_)
    (fun k ob hk => ?_) (.bs (.inr ⟨Nat.le_refl _, rfl⟩)) rest
  · cases j with
    | zero =>
      simp only [List.getElem?_cons_zero, Option.some.injEq] at hj
      exact ⟨l0, cs, bs, rfl, hl, hj.symm, .box hin.length (hin.mono (fun _ _ h => h.elim) (fun _ _ h => h.elim)).get⟩
    | succ j => simp at hj
  · rw [ha]
    exact hargs.mono (fun a b h => by obtain ⟨rfl, rfl⟩ := h; rfl) (fun _ _ h => h.elim)
  · cases j with
    | zero =>
      simp only [List.getElem?_cons_zero, Option.some.injEq] at hj
      subst hj
      exact ⟨bs', bs', rfl, by rw [List.getElem?_append_left (by simpa using hlt), List.getElem?_set_self hlt], .box rfl (lf_pair hx)⟩
    | succ j => simp at hj
  · rw [List.getElem?_append_right (by simp), List.length_set, Nat.add_sub_cancel_left] at hk
    cases k with
    | zero => simp at hk; subst hk; exact ⟨.box xs, rfl, .box rfl (lf_pair hxs)⟩
    | succ k => simp at hk
end ops
/-- It has written a block of the caller's and hands back a slice of a new one. -/
theorem fin_boxNewBs {rvs : List ResultVar} {ds : List D} {l k k' : Nat} {c0 c1 b0 b1 : List D} (h : RVs P tm S rvs ds) (hd : resD ds = .bs l 0 k) (hk : k = k') (hl0 : S[0]? = some (.box c0)) (hl1 : S[l]? = some (.box c1)) (hne : Nat.beq 0 l = false) (hb0 : RenAll No No c0 b0) (hb1 : RenAll No No c1 b1) :
    Fin P rvs 1 (.bs 1 0 k') [.box b0, .box b1] .ret tm S := by
  subst hk
  have hne' : 0 ≠ l := by rintro rfl; rw [Nat.beq_refl] at hne; cases hne
  refine ⟨.inr rfl, ds, [0, l], h, by rw [hd]; exact .bs rfl, by simp [hne'], fun j hj => by cases j with | zero => rfl | succ j => exact absurd hj (by simp), rfl, fun j ob' h => ?_⟩
  match j with
  | 0 =>
    simp only [List.getElem?_cons_zero, Option.some.injEq] at h
    subst h
    exact ⟨0, _, rfl, hl0, .box hb0.length (hb0.mono (fun _ _ h => h.elim) (fun _ _ h => h.elim)).get⟩
  | 1 =>
    simp only [List.getElem?_cons_succ, List.getElem?_cons_zero, Option.some.injEq] at h
    subst h
    exact ⟨l, _, rfl, hl1, .box hb1.length (hb1.mono (fun _ _ h => h.elim) (fun _ _ h => h.elim)).get⟩
  | j + 2 => simp at h
end Go.Abs
