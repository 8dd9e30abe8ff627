/- Maps from numbers to numbers. -/
import Derived.Test.YtanfmpkjcoolmaaAbsZb
import Derived.MapKept
set_option linter.unusedVariables false
set_option linter.unusedSimpArgs false
namespace Go.Abs
variable {P : Program} {N : Nat} {ops : Array Oper} {l : List Oper} {Q : Exit → Tm → List Ob → Prop} {tm : Tm} {S : List Ob}
def ents (es : Array MapEntry) (L : List (Int × Int)) : Prop := es.toList.map (fun e => (e.key, e.val)) = L.map fun p => (Value.int .i64 p.1, Value.int .i64 p.2)
def MapIs (m : Nat) (L : List (Int × Int)) : Hid := fun _ _ B w => B m ∧ ∃ es clock, w.heap[m]? = some (.map es clock) ∧ ents es L
def look (L : List (Int × Int)) (a : Int) : Option Int := (L.find? fun p => p.1 == a).map (·.2)
theorem findNow_ents : ∀ (es : List MapEntry) (L : List (Int × Int)) (a : Int) (i : Nat), es.map (fun e => (e.key, e.val)) = L.map (fun p => (Value.int .i64 p.1, Value.int .i64 p.2)) →
    (look L a = none → Instr.findNow (.int .i64) (.int .i64 a) es i = some none) ∧ (∀ v, look L a = some v → ∃ j, Instr.findNow (.int .i64) (.int .i64 a) es i = some (some (j, .int .i64 v)))
  | [], [], a, i, _ => ⟨fun _ => rfl, fun v h => by simp [look] at h⟩
  | [], _ :: _, a, i, h => by simp at h
  | _ :: _, [], a, i, h => by simp at h
  | e :: es, p :: L, a, i, h => by
    simp only [List.map_cons, List.cons.injEq, Prod.mk.injEq] at h
    obtain ⟨⟨h1, h2⟩, h3⟩ := h
    have ih := findNow_ents es L a (i + 1) h3
    have e1 : Instr.findNow (.int .i64) (.int .i64 a) (e :: es) i = if a == p.1 then some (some (i, e.val)) else Instr.findNow (.int .i64) (.int .i64 a) es (i + 1) := by
      simp only [Instr.findNow, h1, Instr.sameNow, if_true]
      cases a == p.1 <;> rfl
    have e2 : look (p :: L) a = if p.1 == a then some p.2 else look L a := by
      unfold look; rw [List.find?_cons]; cases p.1 == a <;> rfl
    rw [e1, e2]
    by_cases hc : a = p.1
    · subst hc
      simp only [beq_self_eq_true, if_true]
      exact ⟨fun h => by simp at h, fun v hv => ⟨i, by rw [h2]; simp at hv; rw [hv]⟩⟩
    · have hc1 : (a == p.1) = false := by simpa using hc
      have hc2 : (p.1 == a) = false := by simp; exact fun h => hc h.symm
      rw [hc1, hc2]
      simp only [Bool.false_eq_true, if_false]
      exact ih
theorem mapIs_obs {g : G} {w : World} {l0 m : Nat} {L : List (Int × Int)} (hs : Sim g w S) (hS : S[l0]? = some (.seen (MapIs m L) none)) : ∃ B : Nat → Prop, (∀ b, B b → g.own b = some l0) ∧ B m ∧ ∃ es clock, w.heap[m]? = some (.map es clock) ∧ ents es L := by
  obtain ⟨B, h1, h2⟩ := hs.obs l0 _ hS
  obtain ⟨k1, k2⟩ := h2 g.lim w (.refl w) (fun _ _ => ⟨rfl, rfl⟩) (fun _ _ h => h) hs.lim
  exact ⟨B, h1, k1, k2⟩
theorem newMap {g : G} {w : World} (hs : Sim g w S) : Sim { g with own := upd g.own w.heap.size (some S.length) } (w.alloc (.map #[] 0)) (S ++ [.seen (MapIs w.heap.size []) none]) ∧ Later g w { g with own := upd g.own w.heap.size (some S.length) } (w.alloc (.map #[] 0)) := by
  have hle : Le g w { g with own := upd g.own w.heap.size (some S.length) } (w.alloc (.map #[] 0)) := ⟨fun a v h => ⟨(cell_same (heap_alloc_lt (cell_block h.1))).trans h.1, h.2.1, h.2.2⟩, fun _ _ h => h, fun _ n h e => ⟨n, h, e, .inr ⟨rfl, rfl⟩⟩⟩
  have hsz : (w.alloc (.map #[] 0)).heap.size = w.heap.size + 1 := World.size_alloc ..
  refine ⟨⟨fun l ob h => ?_, fun l h => hs.noEta l (by simp at h; omega), fun l h => hs.noRow l (by simp at h; omega), fun b l e => ?_, fun b h => hs.lim b (by omega)⟩, hle, ⟨by omega, rfl, rfl, rfl, fun b hb ho => ⟨heap_alloc_lt hb, rfl, ?_⟩, fun b l hb ho => ?_, rfl⟩⟩
  · rcases getElem?_snoc h with ⟨h, hlt⟩ | ⟨rfl, rfl⟩
    · refine (hs.obs l ob h).keep hle ⟨by omega, rfl, rfl, rfl⟩ (fun b hb => ?_) (fun n h e => e) (fun e1 e2 => ⟨e1, e2⟩)
      have hlt := (hs.own b l hb).2
      exact ⟨heap_alloc_lt hlt, rfl, by simp only; rw [upd_other _ _ (by omega)]; exact hb⟩
    · refine ⟨fun b => b = w.heap.size, fun b hb => by subst hb; simp only [upd_same], ?_⟩
      intro lim' w' hx hb ha hl
      refine ⟨rfl, #[], 0, ?_, rfl⟩
      rw [(hb _ rfl).1]; exact heap_alloc_new _ _
  · simp only [List.length_append, List.length_cons, List.length_nil]
    by_cases hb : b = w.heap.size
    · subst hb; simp only [upd_same, Option.some.injEq] at e; omega
    · simp only [upd_other _ _ hb] at e
      have := hs.own b l e; omega
  · simp only; rw [upd_other _ _ (by omega)]; exact ho
  · simp only; rw [upd_other _ _ (by omega)]; exact ho
theorem setMap {g : G} {w : World} {l0 m : Nat} {L L' : List (Int × Int)} (hs : Sim g w S) (hS : S[l0]? = some (.seen (MapIs m L) none)) {es' : Array MapEntry} {clock' : Nat} (he : ents es' L') :
    Sim g (w.putObj m (.map es' clock')) (S.set l0 (.seen (MapIs m L') none)) ∧ Later g w g (w.putObj m (.map es' clock')) := by
  obtain ⟨B, hB, hBm, es, clock, hh, _⟩ := mapIs_obs hs hS
  have hl0 : l0 < S.length := (List.getElem?_eq_some_iff.1 hS).1
  have hm : m < w.heap.size := (Array.getElem?_eq_some_iff.1 hh).1
  have hle : Le g w g (w.putObj m (.map es' clock')) := by
    refine ⟨?_, fun _ _ h => h, fun _ n h e => ⟨n, h, e, .inr ⟨rfl, rfl⟩⟩⟩
    rintro a v ⟨k1, k2, k3⟩
    obtain ⟨o1, e1, e2⟩ := cells_of_cell k1
    have hne : a.block ≠ m := by intro e; rw [e, hh] at e1; cases e1; cases e2
    exact ⟨(cell_same (World.putObj_heap_other hne)).trans k1, k2, k3⟩
  have hsz : (w.putObj m (.map es' clock')).heap.size = w.heap.size := by simp
  refine ⟨⟨fun l ob h => ?_, fun l h => hs.noEta l (by simpa using h), fun l h => hs.noRow l (by simpa using h), fun b l e => by rw [List.length_set, hsz]; exact hs.own b l e, fun b h => hs.lim b (by omega)⟩, hle, ⟨by omega, rfl, rfl, rfl, fun b hb ho => ⟨World.putObj_heap_other (by rintro rfl; rw [hB _ hBm] at ho; cases ho), rfl, ho⟩, fun b l hb ho => ho, rfl⟩⟩
  by_cases e : l = l0
  · subst e
    rw [List.getElem?_set_self hl0] at h
    cases h
    refine ⟨B, hB, ?_⟩
    intro lim' w' hx hb ha hl
    refine ⟨hBm, es', clock', ?_, he⟩
    rw [(hb _ hBm).1]; exact World.putObj_heap_same hm
  · rw [List.getElem?_set_ne (by omega)] at h
    refine (hs.obs l ob h).keep hle ⟨by omega, rfl, rfl, rfl⟩ (fun b hb => ?_) (fun n h e => e) (fun e1 e2 => ⟨e1, e2⟩)
    exact ⟨World.putObj_heap_other (by rintro rfl; rw [hB _ hBm] at hb; cases hb; exact e rfl), rfl, hb⟩
theorem checkKey_int {kt : TypeId} {a : Int} {w : World} (hk : P.underlying kt = some (.int .i64)) (e : Bool) (n : Nat) : (Instr.checkKey e (n + 1) kt (.int .i64 a)).run P w = .ok () w := by
  simp [Instr.checkKey, Sem.run_bind, run_underlying hk, Result.andThen]
section
variable {t : Tmp} {ty : TypeId} {pos : String} {after : Array Edge}
theorem n_makeMap {T : TypeId} (hd : Nat.blt t N = true) (rest : ∀ m, AOps P N ops l Q (put tm t (.val (.map (some m)))) (S ++ [.seen (MapIs m []) none])) :
    AOps P N ops (⟨some t, .makeMap T none, ty, pos, after, none⟩ :: l) Q tm S := fun ro g a w st => by
  obtain ⟨k1, k2⟩ := newMap st.sim
  have hr : (execOp a.eval (⟨some t, .makeMap T none, ty, pos, after, none⟩ : Oper)).run P w = .ok (.value (.map (some w.heap.size))) (w.alloc (.map #[] 0)) := rfl
  unfold wpListIn
  rw [if_pos (by simp [Region.wanted])]
  refine ⟨about_wide, ?_⟩
  rw [run_semAt hr (fun _ e => by cases e)]
  exact wpList_mono (fun e a' w2 k => Post.later k2 k) _ _ _ (rest w.heap.size ro _ _ _ ((st.later k2 k1).put (o := some t) (dstOk_lt hd) (.val _)))
theorem n_mapUpdate {T kt et : TypeId} {x k v : Operand} {l0 m : Nat} {L : List (Int × Int)} {a b : Int} {S' : List Ob} (hu : P.underlying T = some (.map kt et)) (hk : P.underlying kt = some (.int .i64)) (hx : ev tm x = .val (.map (some m))) (hkk : ev tm k = .val (.int .i64 a)) (hv : ev tm v = .val (.int .i64 b))
    (hS : S[l0]? = some (.seen (MapIs m L) none)) (hno : look L a = none) (hS' : S.set l0 (.seen (MapIs m (L ++ [(a, b)])) none) = S') (rest : AOps P N ops l Q tm S') :
    AOps P N ops (⟨none, .mapUpdate T x k v, ty, pos, after, none⟩ :: l) Q tm S := by
  subst hS'
  refine AOps.unit (o := ⟨none, .mapUpdate T x k v, ty, pos, after, none⟩) rfl rfl (fun g ac w st => ?_) rest
  obtain ⟨B, hB, hBm, es, clock, hh, hen⟩ := mapIs_obs st.sim hS
  have ex := (show Rep g w (ac.eval x) _ from hx ▸ st.ev x).val_inv
  have ek := (show Rep g w (ac.eval k) _ from hkk ▸ st.ev k).val_inv
  have evv := (show Rep g w (ac.eval v) _ from hv ▸ st.ev v).val_inv
  have hen' : ents (es.push { key := .int .i64 a, val := .int .i64 b, born := clock }) (L ++ [(a, b)]) := by
    unfold ents at hen ⊢
    simp only [Array.toList_push, List.map_append, hen, List.map_cons, List.map_nil]
  obtain ⟨k1, k2⟩ := setMap (clock' := clock + 1) st.sim hS hen'
  refine ⟨g, _, ?_, k1, k2⟩
  have hf := (findNow_ents es.toList L a 0 hen).1 hno
  have hck : (Instr.checkKey false 10000 kt (.int .i64 a)).run P w = .ok () w := checkKey_int hk false 9999
  have hfk : (Instr.findKey kt (.int .i64 a) es.toList).run P w = .ok none w := by
    simp [Instr.findKey, Sem.run_bind, run_underlying hk, Result.andThen, hf]
  have : (Instr.mapUpdate T (.map (some m)) (.int .i64 a) (.int .i64 b)).run P w = .ok () (w.putObj m (.map (es.push { key := .int .i64 a, val := .int .i64 b, born := clock }) (clock + 1))) := by
    simp only [Instr.mapUpdate, Sem.run_bind, run_underlying hu, Result.andThen, MapKept.run_getObj_map hh, hck, hfk]
    exact MapKept.run_setObj_map _ hh
  simp only [execOp, ex, ek, evv]
  rw [Sem.run_bind, this]
  rfl
theorem n_lookupOk {T kt et : TypeId} {x k : Operand} {l0 m : Nat} {L : List (Int × Int)} {a : Int} (hd : Nat.blt t N = true) (hu : P.underlying T = some (.map kt et)) (hk : P.underlying kt = some (.int .i64)) (hz : (P.info? et).map (·.zero) = some (some (.int .i64 0))) (hx : ev tm x = .val (.map (some m))) (hkk : ev tm k = .val (.int .i64 a))
    (hS : S[l0]? = some (.seen (MapIs m L) none)) (rest : AOps P N ops l Q (put tm t (.tup [.val (.int .i64 ((look L a).getD 0)), .val (.bool (look L a).isSome)])) S) :
    AOps P N ops (⟨some t, .lookup T x k true, ty, pos, after, none⟩ :: l) Q tm S := by
  refine AOps.still (o := ⟨some t, .lookup T x k true, ty, pos, after, none⟩) (d := .tup [.val (.int .i64 ((look L a).getD 0)), .val (.bool (look L a).isSome)]) rfl hd (fun g ac w st => ?_) rest
  obtain ⟨B, hB, hBm, es, clock, hh, hen⟩ := mapIs_obs st.sim hS
  have ex := (show Rep g w (ac.eval x) _ from hx ▸ st.ev x).val_inv
  have ek := (show Rep g w (ac.eval k) _ from hkk ▸ st.ev k).val_inv
  refine ⟨.tuple #[.int .i64 ((look L a).getD 0), .bool (look L a).isSome], ?_, .tup rfl (fun i v d h1 h2 => ?_)⟩
  · have hck : ∀ e, (Instr.checkKey e 10000 kt (.int .i64 a)).run P w = .ok () w := fun e => checkKey_int hk e 9999
    have hzv : (zeroValue et).run P w = .ok (.int .i64 0) w := by
      obtain ⟨i, hi, hz⟩ := Option.map_eq_some_iff.1 hz
      simp [zeroValue, typeInfo, hi, hz]
    have : (Instr.lookup T (.map (some m)) (.int .i64 a) true).run P w = .ok (.tuple #[.int .i64 ((look L a).getD 0), .bool (look L a).isSome]) w := by
      cases hl : look L a with
      | none =>
        have hf := (findNow_ents es.toList L a 0 hen).1 hl
        have hfk : (Instr.findKey kt (.int .i64 a) es.toList).run P w = .ok none w := by
          simp [Instr.findKey, Sem.run_bind, run_underlying hk, Result.andThen, hf]
        simp [Instr.lookup, Sem.run_bind, run_underlying hu, Result.andThen, MapKept.run_getObj_map hh, hck, hfk, hzv]
      | some u =>
        obtain ⟨j, hf⟩ := (findNow_ents es.toList L a 0 hen).2 u hl
        have hfk : (Instr.findKey kt (.int .i64 a) es.toList).run P w = .ok (some (j, .int .i64 u)) w := by
          simp [Instr.findKey, Sem.run_bind, run_underlying hk, Result.andThen, hf]
        simp [Instr.lookup, Sem.run_bind, run_underlying hu, Result.andThen, MapKept.run_getObj_map hh, hck, hfk]
    simp only [execOp, ex, ek]
    rw [Sem.run_bind, this]
    rfl
  · match i with
    | 0 => simp at h1 h2; subst h1 h2; exact .val _
    | 1 => simp at h1 h2; subst h1 h2; exact .val _
    | i + 2 => simp at h2
end
end Go.Abs
