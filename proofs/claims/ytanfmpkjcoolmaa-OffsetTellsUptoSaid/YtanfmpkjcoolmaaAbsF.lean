/- Values that are built: structs, slice literals. -/
import Derived.Test.YtanfmpkjcoolmaaAbsE
set_option linter.unusedVariables false
set_option linter.unusedSimpArgs false
namespace Go.Abs
variable {P : Program} {N : Nat} {ops : Array Oper} {l : List Oper} {Q : Exit → Tm → List Ob → Prop} {tm : Tm} {S : List Ob}

theorem fold_get (off : Nat) : ∀ (vs : List Value) (k : Nat) (cs : Array Value), off + k + vs.length ≤ cs.size →
    ((vs.zipIdx k).foldl (fun cs (p : Value × Nat) => cs.setIfInBounds (off + p.2) p.1) cs).size = cs.size ∧
    ∀ (i : Nat), ((vs.zipIdx k).foldl (fun cs (p : Value × Nat) => cs.setIfInBounds (off + p.2) p.1) cs)[i]? = if i < off + k then cs[i]? else if i < off + k + vs.length then vs[i - (off + k)]? else cs[i]?
  | [], k, cs, h => by
    refine ⟨rfl, fun i => ?_⟩
    simp only [List.zipIdx_nil, List.foldl_nil, List.length_nil, Nat.add_zero]
    split
    · rfl
    · rfl
  | v :: vs, k, cs, h => by
    simp only [List.zipIdx_cons, List.foldl_cons]
    simp only [List.length_cons] at h
    obtain ⟨h1, h2⟩ := fold_get off vs (k + 1) (cs.setIfInBounds (off + k) v) (by simp; omega)
    refine ⟨by rw [h1]; simp, fun i => ?_⟩
    rw [h2 i]
    simp only [List.length_cons]
    by_cases c1 : i < off + k
    · rw [if_pos (by omega), if_pos c1, Array.getElem?_setIfInBounds_ne (by omega)]
    · by_cases c2 : i = off + k
      · subst c2
        rw [if_pos (by omega), if_neg (by omega), if_pos (by omega)]
        have hlt : off + k < cs.size := by omega
        simp [hlt]
      · rw [if_neg (by omega), if_neg c1]
        by_cases c3 : i < off + k + (vs.length + 1)
        · rw [if_pos (by omega), if_pos c3, show i - (off + k) = (i - (off + (k + 1))) + 1 by omega]; rfl
        · rw [if_neg (by omega), if_neg c3, Array.getElem?_setIfInBounds_ne (by omega)]

theorem fold_arr (off : Nat) (v : Value) (cs : Array Value) : v.cells.zipIdx.foldl (fun cs (c, j) => cs.setIfInBounds (off + j) c) cs = (v.cells.toList.zipIdx 0).foldl (fun cs (p : Value × Nat) => cs.setIfInBounds (off + p.2) p.1) cs := by
  rw [← Array.foldl_toList, Array.toList_zipIdx]

def fillD (place : Nat → Option (Nat × Nat)) (cells : List D) : List (Nat × D) → Option (List D)
  | [] => some cells
  | (i, d) :: rest =>
    match place i with
    | none => none
    | some (off, size) => bif d.solid && Nat.beq d.cells.length size && Nat.ble (off + size) cells.length then fillD place (splice cells off d.cells) rest else none

theorem fill_rep {g : G} {w : World} {place : Nat → Option (Nat × Nat)} : ∀ (dparts : List (Nat × D)) (parts : List (Nat × Value)) (cells : Array Value) (dcells r : List D),
    cells.size = dcells.length → (∀ (i : Nat) (v : Value) (d : D), cells[i]? = some v → dcells[i]? = some d → Rep g w v d) →
    parts.length = dparts.length → (∀ (k : Nat) (p : Nat × Value) (q : Nat × D), parts[k]? = some p → dparts[k]? = some q → p.1 = q.1 ∧ Rep g w p.2 q.2) →
    fillD place dcells dparts = some r → ∃ cells', Instr.fill place cells parts = some cells' ∧ cells'.size = r.length ∧ ∀ (i : Nat) (v : Value) (d : D), cells'[i]? = some v → r[i]? = some d → Rep g w v d
  | [], parts, cells, dcells, r, hs, hr, hl, hp, h => by
    obtain rfl := List.eq_nil_of_length_eq_zero hl
    simp only [fillD, Option.some.injEq] at h
    subst h
    exact ⟨cells, rfl, hs, hr⟩
  | (i, d) :: dparts, parts, cells, dcells, r, hs, hr, hl, hp, h => by
    cases parts with
    | nil => simp at hl
    | cons p parts =>
      obtain ⟨i', v⟩ := p
      obtain ⟨e, hrep⟩ := hp 0 (i', v) (i, d) rfl rfl
      simp only at e hrep
      subst e
      simp only [fillD] at h
      cases hpl : place i' with
      | none => rw [hpl] at h; cases h
      | some os =>
        obtain ⟨off, size⟩ := os
        rw [hpl] at h
        simp only at h
        cases hc : (d.solid && Nat.beq d.cells.length size && Nat.ble (off + size) dcells.length) with
        | false => rw [hc] at h; cases h
        | true =>
          rw [hc] at h
          simp only [cond_true] at h
          simp only [Bool.and_eq_true] at hc
          obtain ⟨⟨c1, c2⟩, c3⟩ := hc
          have c2 := Nat.eq_of_beq_eq_true c2
          have c3 := Nat.le_of_ble_eq_true c3
          obtain ⟨k1, k2⟩ := rep_cells hrep c1
          have hl' : off + 0 + v.cells.toList.length ≤ cells.size := by simp; omega
          obtain ⟨f1, f2⟩ := fold_get off v.cells.toList 0 cells hl'
          obtain ⟨cells', e1, e2, e3⟩ := fill_rep dparts parts ((v.cells.toList.zipIdx 0).foldl (fun cs (p : Value × Nat) => cs.setIfInBounds (off + p.2) p.1) cells) (splice dcells off d.cells) r
            (by rw [f1, splice_length (by omega), hs]) (by
              intro j u x g1 g2
              rw [f2 j] at g1
              unfold splice at g2
              rw [getElem?_splice _ _ _ (by omega)] at g2
              simp only [Nat.add_zero, Array.length_toList] at g1
              rw [k1] at g1
              split at g1
              · rename_i c; rw [if_pos c] at g2; exact hr j u x g1 g2
              · rename_i c
                rw [if_neg c] at g2
                split at g1
                · rename_i c'; rw [if_pos c'] at g2; exact k2 _ u x (by simpa using g1) g2
                · rename_i c'; rw [if_neg c'] at g2; exact hr j u x g1 g2)
            (by simpa using hl) (fun k p q h1 h2 => hp (k + 1) p q (by simpa using h1) (by simpa using h2)) h
          refine ⟨cells', ?_, e2, e3⟩
          simp only [Instr.fill, hpl]
          have : (decide (v.cells.size ≠ size) || decide (off + v.cells.size > cells.size)) = false := by simp; omega
          rw [this, fold_arr]
          simpa using e1

/-- A struct type: its fields' places, its zero value. -/
structure SI (P : Program) (t : TypeId) (pl : Array (Nat × Nat)) (z : Value) : Prop where
  fields : ∃ fs, P.underlying t = some (.struct fs) ∧ ∀ w : World, (fs.mapM fun f => do pure (f.offset, ← Go.sizeOf f.type) : Sem (Array (Nat × Nat))).run P w = .ok pl w
  zero : (P.info? t).map (·.zero) = some (some z)

section ops
variable {dst : Option Tmp} {ty : TypeId} {pos : String} {after : Array Edge}

theorem parts_rep {g : G} {a : Act} {w : World} (st : St N g tm S a w) (parts : Array (Nat × Operand)) :
    (parts.map fun (i, x) => (i, a.eval x)).toList.length = (parts.toList.map fun (p : Nat × Operand) => (p.1, ev tm p.2)).length ∧
    ∀ (k : Nat) (p : Nat × Value) (q : Nat × D), (parts.map fun (i, x) => (i, a.eval x)).toList[k]? = some p → (parts.toList.map fun (p : Nat × Operand) => (p.1, ev tm p.2))[k]? = some q → p.1 = q.1 ∧ Rep g w p.2 q.2 := by
  refine ⟨by simp, ?_⟩
  intro k p q h1 h2
  simp only [Array.toList_map, List.getElem?_map, Array.getElem?_toList, Option.map_eq_some_iff] at h1 h2
  obtain ⟨o1, e1, rfl⟩ := h1
  obtain ⟨o2, e2, rfl⟩ := h2
  rw [e1] at e2; cases e2
  exact ⟨rfl, st.ev _⟩

theorem op_build {t : TypeId} {parts : Array (Nat × Operand)} {pl : Array (Nat × Nat)} {z : Value} {r : List D} (hd : dstOk N dst = true) (ht : SI P t pl z)
    (hr : fillD (fun i => pl[i]?) (z.cells.toList.map ofV) (parts.toList.map fun (p : Nat × Operand) => (p.1, ev tm p.2)) = some r)
    (rest : AOps P N ops l Q (putO tm dst (.agg r)) S) : AOps P N ops (⟨dst, .build t parts, ty, pos, after, none⟩ :: l) Q tm S :=
  .still rfl hd (fun g a w st => by
    obtain ⟨fs, hu, hpl⟩ := ht.fields
    obtain ⟨i, hi, hz⟩ := Option.map_eq_some_iff.1 ht.zero
    obtain ⟨p1, p2⟩ := parts_rep st parts
    obtain ⟨cells', e1, e2, e3⟩ := fill_rep (g := g) (w := w) _ _ z.cells _ r (by simp) (fun i v d h1 h2 => by
      simp only [List.getElem?_map, Array.getElem?_toList, h1, Option.map_some, Option.some.injEq] at h2
      subst h2
      exact rep_ofV v) p1 p2 hr
    refine ⟨.agg cells', ?_, .agg e2 e3⟩
    simp only [execOp, Instr.build, Sem.run_bind, zeroValue, typeInfo]
    simp only [Sem.run_bind, Result.andThen_ok, run_underlying hu, hpl]
    have e1' : Instr.fill (fun x => pl[x]?) z.cells (List.map (fun x => (x.fst, a.eval x.snd)) parts.toList) = some cells' := by rw [← e1]; congr 1; simp
    simp [hi, hz, e1']) rest

theorem fill_seq {sz : Nat} : ∀ (vs : List Value) (k : Nat) (cells : Array Value), (∀ v ∈ vs, v.cells.size = sz) → cells.size = (k + vs.length) * sz →
    ∃ cells', Instr.fill (fun i => some (i * sz, sz)) cells ((vs.zipIdx k).map fun p => (p.2, p.1)) = some cells' ∧ cells'.size = cells.size ∧
      (∀ (i : Nat), i < k * sz → cells'[i]? = cells[i]?) ∧ ∀ (i : Nat) (v : Value), vs[i]? = some v → ∀ (j : Nat), j < sz → cells'[(k + i) * sz + j]? = v.cells[j]?
  | [], k, cells, _, _ => ⟨cells, rfl, rfl, fun _ _ => rfl, fun i v h => by simp at h⟩
  | v :: vs, k, cells, h1, h2 => by
    simp only [List.length_cons] at h2
    have hv := h1 v (by simp)
    have hle : k * sz + 0 + v.cells.toList.length ≤ cells.size := by
      have : (k + (vs.length + 1)) * sz = k * sz + vs.length * sz + sz := by rw [← Nat.add_assoc, Nat.add_mul, Nat.add_mul, Nat.one_mul]
      simp; omega
    obtain ⟨f1, f2⟩ := fold_get (k * sz) v.cells.toList 0 cells hle
    obtain ⟨cells', e1, e2, e3, e4⟩ := fill_seq vs (k + 1) ((v.cells.toList.zipIdx 0).foldl (fun cs (p : Value × Nat) => cs.setIfInBounds (k * sz + p.2) p.1) cells) (fun u hu => h1 u (by simp [hu])) (by rw [f1, h2]; congr 1; omega)
    have hk : (k + 1) * sz = k * sz + sz := by rw [Nat.add_mul, Nat.one_mul]
    refine ⟨cells', ?_, by rw [e2, f1], ?_, ?_⟩
    · simp only [List.zipIdx_cons, List.map_cons, Instr.fill]
      have : (decide (v.cells.size ≠ sz) || decide (k * sz + v.cells.size > cells.size)) = false := by
        simp only [Array.length_toList] at hle
        simp; omega
      rw [this, fold_arr]
      simpa using e1
    · intro i hi
      rw [e3 i (by omega), f2 i, if_pos (by omega)]
    · intro i u hu j hj
      cases i with
      | zero =>
        simp only [List.getElem?_cons_zero, Option.some.injEq] at hu
        subst hu
        simp only [Nat.add_zero]
        rw [e3 _ (by omega), f2, if_neg (by omega), if_pos (by simp; omega)]
        simp
      | succ i =>
        have := e4 i u (by simpa using hu) j hj
        rw [show k + (i + 1) = k + 1 + i by omega]
        exact this

theorem op_lit {t e : TypeId} {len sz : Nat} {ag : Bool} {z : Value} {parts : Array (Nat × Operand)} {xs : List (List D)} (hd : dstOk N dst = true) (hu : P.underlying t = some (.slice e)) (ht : TI P e sz ag) (hz : (P.info? e).map (·.zero) = some (some z))
    (hi : parts.toList.map (·.1) = List.range len) (hlen : Nat.ble (len * sz) 16777216 = true)
    (hp : parts.toList.all (fun p => (ev tm p.2).solid && Nat.beq (ev tm p.2).cells.length sz && (ev tm p.2).cells.all D.one) = true) (hxs : parts.toList.map (fun p => (ev tm p.2).cells) = xs)
    (rest : AOps P N ops l Q (putO tm dst (.sl (some false) xs .full)) S) : AOps P N ops (⟨dst, .buildSlice t len parts, ty, pos, after, none⟩ :: l) Q tm S :=
  .value rfl hd (fun g a w st => by
    have hlen := Nat.le_of_ble_eq_true hlen
    have hn : parts.toList.length = len := by have := congrArg List.length hi; simpa using this
    have hall := List.all_eq_true.1 hp
    have hpart : ∀ p ∈ parts.toList, (ev tm p.2).solid = true ∧ (ev tm p.2).cells.length = sz ∧ (ev tm p.2).cells.all D.one = true := by
      intro p hpm
      have := hall p hpm
      simp only [Bool.and_eq_true] at this
      exact ⟨this.1.1, Nat.eq_of_beq_eq_true this.1.2, this.2⟩
    let vs := parts.toList.map fun p => a.eval p.2
    have hvs : ∀ v ∈ vs, v.cells.size = sz := by
      intro v hv
      obtain ⟨p, hpm, rfl⟩ := List.mem_map.1 hv
      obtain ⟨h1, h2, _⟩ := hpart p hpm
      rw [(rep_cells (st.ev p.2) h1).1, h2]
    have hzip : (parts.map fun (i, x) => (i, a.eval x)).toList = (vs.zipIdx 0).map fun p => (p.2, p.1) := by
      apply List.ext_getElem?
      intro k
      simp only [vs, Array.toList_map, List.getElem?_map, List.getElem?_zipIdx, Array.getElem?_toList, Nat.zero_add, Option.map_map]
      by_cases hk : k < parts.size
      · have hk' : parts[k]? = some parts[k] := Array.getElem?_eq_getElem hk
        have : (parts.toList.map (·.1))[k]? = some k := by rw [hi, List.getElem?_range (by have := Array.length_toList (xs := parts); omega)]
        simp only [List.getElem?_map, Array.getElem?_toList, hk', Option.map_some, Option.some.injEq] at this
        simp [hk', this]
      · rw [Array.getElem?_eq_none (by omega)]; rfl
    obtain ⟨i, hinf, hz⟩ := Option.map_eq_some_iff.1 hz
    obtain ⟨i', hinf', hisz⟩ := Option.map_eq_some_iff.1 ht.info
    rw [hinf] at hinf'; cases hinf'
    have hrun : ∀ zs : Array Value, zs = (if len * sz = 0 then #[] else z.cells) → ∀ cells : Array Value, Instr.fill (fun i => some (i * sz, sz)) ((Array.range (len * sz)).map (zs[· % zs.size]!)) (parts.map fun (i, x) => (i, a.eval x)).toList = some cells →
        (execOp a.eval (⟨dst, .buildSlice t len parts, ty, pos, after, none⟩ : Oper)).run P w = .ok (.value (.slice (some ⟨w.heap.size, 0, none⟩) len len)) (w.alloc (.cells cells e)) := by
      intro zs hzs cells hf
      have hnot : ¬ (len * sz > 2 ^ 24) := by omega
      simp only [execOp, Instr.buildSlice, Sem.run_bind, run_underlying hu, Result.andThen_ok, ht.sizeOf, hnot, if_false]
      by_cases h0 : len * sz = 0
      · rw [if_pos h0] at hzs
        subst hzs
        rw [if_pos h0]
        have hf' : Instr.fill (fun i => some (i * sz, sz)) ((Array.range (len * sz)).map ((#[] : Array Value)[· % (#[] : Array Value).size]!)) (List.map (fun x => (x.fst, a.eval x.snd)) parts.toList) = some cells := by rw [← hf]; congr 1; simp
        simp only [Sem.run_bind, Sem.run_pure, Result.andThen_ok]
        rw [show (parts.map fun (i, x) => (i, a.eval x)).toList = List.map (fun x => (x.fst, a.eval x.snd)) parts.toList by simp]
        simp only [hf']
        simp [newRow]
      · rw [if_neg h0] at hzs
        subst hzs
        rw [if_neg h0]
        have hzv : (zeroValue e).run P w = .ok z w := by simp [zeroValue, typeInfo, hinf, hz]
        have hf' : Instr.fill (fun i => some (i * sz, sz)) ((Array.range (len * sz)).map (z.cells[· % z.cells.size]!)) (List.map (fun x => (x.fst, a.eval x.snd)) parts.toList) = some cells := by rw [← hf]; congr 1; simp
        simp only [Sem.run_bind, hzv, Result.andThen_ok]
        simp [newRow, hf']
    obtain ⟨cells, e1, e2, e3, e4⟩ := fill_seq vs 0 ((Array.range (len * sz)).map ((if len * sz = 0 then #[] else z.cells)[· % (if len * sz = 0 then #[] else z.cells).size]!)) hvs (by simp [vs]; rw [← hn]; simp)
    have hcs : cells.size = len * sz := by rw [e2]; simp
    obtain ⟨k1, k2⟩ := newRo st.sim cells e
    refine ⟨.slice (some ⟨w.heap.size, 0, none⟩) len len, _, _, ?_, ?_, k1, k2⟩
    · exact hrun _ rfl cells (by rw [hzip]; exact e1)
    · have hxlen : xs.length = len := by rw [← hxs, List.length_map, hn]
      have hget : ∀ (i : Nat) (x : List D), xs[i]? = some x → ∃ p, parts.toList[i]? = some p ∧ x = (ev tm p.2).cells := by
        intro i x h
        rw [← hxs, List.getElem?_map, Option.map_eq_some_iff] at h
        obtain ⟨p, h1, h2⟩ := h
        exact ⟨p, h1, h2.symm⟩
      refine .sl sz (fun i j => cells.getD (i * sz + j) undef) hxlen (Nat.le_refl _) (fun e => by cases e) (fun b h => by cases h; rfl) ?_ ?_ ?_ rfl
      · intro x hx
        obtain ⟨i, hi, rfl⟩ := List.mem_iff_getElem.1 hx
        obtain ⟨p, h1, h2⟩ := hget i _ (List.getElem?_eq_getElem hi)
        rw [h2]
        exact (hpart p (List.mem_of_getElem? h1)).2.1
      · intro i x hx j d hj
        obtain ⟨p, h1, rfl⟩ := hget i x hx
        obtain ⟨g1, g2, g3⟩ := hpart p (List.mem_of_getElem? h1)
        have hjl : j < sz := by have := (List.getElem?_eq_some_iff.1 hj).1; omega
        have hv : vs[i]? = some (a.eval p.2) := by simp only [vs, List.getElem?_map, h1, Option.map_some]
        have hc := e4 i _ hv j hjl
        rw [Nat.zero_add] at hc
        obtain ⟨r1, r2⟩ := rep_cells (st.ev p.2) g1
        have hjv : (a.eval p.2).cells[j]? = some ((a.eval p.2).cells[j]'(by omega)) := Array.getElem?_eq_getElem _
        rw [hjv] at hc
        have hgd : cells.getD (i * sz + j) undef = (a.eval p.2).cells[j]'(by omega) := by
          rw [Array.getD_eq_getD_getElem?, hc]; rfl
        refine ⟨_, rfl, ?_, ?_, ?_⟩
        · rw [add_lit, Nat.zero_add]
          show (w.alloc (.cells cells e)).cell? ⟨w.heap.size, i * sz + j, none⟩ = _
          rw [World.cell?_alloc_new, hc, hgd]
        · rw [add_lit, Nat.zero_add]
          show i * sz + j < (gRow g w.heap.size cells.size).lim w.heap.size
          simp only [gRow, upd_same]
          have hil : i < len := by have := (List.getElem?_eq_some_iff.1 hx).1; omega
          rw [hcs]
          have : (i + 1) * sz ≤ len * sz := Nat.mul_le_mul_right _ hil
          rw [Nat.add_mul, Nat.one_mul] at this
          omega
        · rw [hgd]
          exact rep_one (r2 j _ d hjv hj) (List.all_eq_true.1 g3 _ (List.mem_of_getElem? hj))
      · intro i x hx j d hj
        obtain ⟨p, h1, rfl⟩ := hget i x hx
        obtain ⟨g1, g2, g3⟩ := hpart p (List.mem_of_getElem? h1)
        have hjl : j < sz := by have := (List.getElem?_eq_some_iff.1 hj).1; omega
        have hv : vs[i]? = some (a.eval p.2) := by simp only [vs, List.getElem?_map, h1, Option.map_some]
        have hc := e4 i _ hv j hjl
        rw [Nat.zero_add] at hc
        obtain ⟨r1, r2⟩ := rep_cells (st.ev p.2) g1
        have hjv : (a.eval p.2).cells[j]? = some ((a.eval p.2).cells[j]'(by omega)) := Array.getElem?_eq_getElem _
        have hgd : cells.getD (i * sz + j) undef = (a.eval p.2).cells[j]'(by omega) := by
          rw [Array.getD_eq_getD_getElem?, hc, hjv]; rfl
        simp only [hgd]
        exact (r2 j _ d hjv hj).mono k2.1) rest
end ops
end Go.Abs
