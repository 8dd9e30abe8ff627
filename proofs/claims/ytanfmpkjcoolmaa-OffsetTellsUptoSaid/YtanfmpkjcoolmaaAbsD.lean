/- Stores into variables; fields; elements; cuts; nil; values that are built. -/
import Derived.Test.YtanfmpkjcoolmaaAbsC
set_option linter.unusedVariables false
set_option linter.unusedSimpArgs false
namespace Go.Abs
variable {P : Program} {N : Nat} {ops : Array Oper} {l : List Oper} {Q : Exit → Tm → List Ob → Prop} {tm : Tm} {S : List Ob}

def splice (ds : List D) (off : Nat) (cs : List D) : List D := ds.take off ++ cs ++ ds.drop (off + cs.length)

theorem splice_length {ds cs : List D} {off : Nat} (h : off + cs.length ≤ ds.length) : (splice ds off cs).length = ds.length := by
  simp [splice]; omega

theorem getElem?_splice {α : Type} (xs ys : List α) (off : Nat) (h : off + ys.length ≤ xs.length) (i : Nat) :
    (xs.take off ++ ys ++ xs.drop (off + ys.length))[i]? = if i < off then xs[i]? else if i < off + ys.length then ys[i - off]? else xs[i]? := by
  have ht : (xs.take off).length = off := by simp; omega
  split
  · rename_i hi
    rw [List.append_assoc, List.getElem?_append_left (by omega), List.getElem?_take, if_pos hi]
  · split
    · rename_i h1 h2
      rw [List.append_assoc, List.getElem?_append_right (by omega), ht, List.getElem?_append_left (by omega)]
    · rename_i h1 h2
      rw [List.getElem?_append_right (by simp [ht]; omega)]
      simp only [List.length_append, ht, List.getElem?_drop]
      congr 1; omega

/-- Objects other than box l0 are kept by whatever changes its block alone. -/
theorem setBox {g : G} {w : World} (hs : Sim g w S) {l0 : Nat} {ds : List D} (hl : S[l0]? = some (.box ds)) {b : Nat} (hb : g.eta l0 = some b)
    {c : Array Value} {T : TypeId} (hh : w.heap[b]? = some (.cells c T (0, 0))) (c' : Array Value) (ds' : List D) (hc : ds'.length ≤ c'.size)
    (hr : ∀ (i : Nat) (v : Value) (d : D), c'[i]? = some v → ds'[i]? = some d → Rep g w v d) :
    Sim g (w.setRow b c') (S.set l0 (.box ds')) ∧ Later g w g (w.setRow b c') := by
  obtain ⟨b', c0, T0, he, ho, hh0, hsz, hlim, hrep⟩ := hs.obs l0 _ hl
  rw [hb] at he; cases he
  have hle : Le g w g (w.setRow b c') := by
    refine ⟨?_, fun l b h => h, fun l n h e => ⟨n, h, e, .inr ⟨rfl, rfl⟩⟩⟩
    rintro a v ⟨h1, h2, h3⟩
    have : a.block ≠ b := by rintro rfl; rw [hlim] at h2; omega
    exact ⟨(cell_setRow_other w b c' a this).trans h1, h2, h3⟩
  refine ⟨⟨?_, ?_, ?_, ?_, ?_⟩, hle, ?_⟩
  · intro l ob h
    by_cases e : l = l0
    · subst e
      have hlt : l < S.length := (List.getElem?_eq_some_iff.1 hl).1
      rw [List.getElem?_set_self hlt] at h
      cases h
      exact ⟨b, c', T, hb, ho, setRow_heap w b c c' T (0, 0) hh, hc, hlim, fun i v d h1 h2 => (hr i v d h1 h2).mono hle⟩
    · rw [List.getElem?_set_ne (by omega)] at h
      refine (hs.obs l ob h).keep hle ⟨by simp, rfl, rfl, rfl⟩ ?_ (fun n h e => e) (fun e1 e2 => ⟨e1, e2⟩)
      intro b1 ho1
      have : b1 ≠ b := by rintro rfl; rw [ho] at ho1; cases ho1; exact e rfl
      exact ⟨setRow_other w b b1 c' this, rfl, ho1⟩
  · intro l h; exact hs.noEta l (by simpa using h)
  · intro l h; exact hs.noRow l (by simpa using h)
  · intro b1 l h; simpa using hs.own b1 l h
  · intro b1 h; exact hs.lim b1 (by simpa using h)
  · refine ⟨by simp, rfl, rfl, rfl, ?_, fun b1 l h h' => h', rfl⟩
    intro b1 h1 h2
    have : b1 ≠ b := by rintro rfl; rw [ho] at h2; cases h2
    exact ⟨setRow_other w b b1 c' this, rfl, h2⟩

theorem ones_rep {g : G} {w : World} {vs : List Value} {ds : List D} (hl : vs.length = ds.length) (h : ds.all D.one = true) (hr : ∀ (i : Nat) (v : Value) (d : D), vs[i]? = some v → ds[i]? = some d → Rep g w v d) : ∀ v ∈ vs, v.oneCell' = true := by
  intro v hv
  obtain ⟨i, hi, rfl⟩ := List.mem_iff_getElem.1 hv
  have hd : ds[i]? = some ds[i] := List.getElem?_eq_getElem (by omega)
  exact rep_one (hr i _ _ (List.getElem?_eq_getElem hi) hd) (List.all_eq_true.1 h _ (List.getElem_mem _))

section ops
variable {dst : Option Tmp} {ty : TypeId} {pos : String} {after : Array Edge}

theorem op_store {t : TypeId} {x y : Operand} {sz off l0 : Nat} {ag : Bool} {ds : List D} (hd : dstOk N dst = true) (ht : TI P t sz ag) (hx : ev tm x = .bp l0 off) (hl : S[l0]? = some (.box ds))
    (hy : (ev tm y).solid = true) (hone : (ev tm y).cells.all D.one = true) (hsz : (ev tm y).cells.length = sz) (hoff : Nat.ble (off + sz) ds.length = true)
    (rest : AOps P N ops l Q (putO tm dst .any) (S.set l0 (.box (splice ds off (ev tm y).cells)))) : AOps P N ops (⟨dst, .store t x y, ty, pos, after, none⟩ :: l) Q tm S :=
  .unit rfl hd (fun g a w st => by
    have hoff := Nat.le_of_ble_eq_true hoff
    have r := st.ev x
    rw [hx] at r
    generalize hv : a.eval x = v at r
    cases r with
    | bp e =>
      rename_i b
      obtain ⟨b', c, T, he, ho, hh, hcs, hlim, hrep⟩ := st.sim.obs l0 _ hl
      rw [e] at he; cases he
      obtain ⟨h1, h2⟩ := rep_cells (st.ev y) hy
      have hlen : (a.eval y).cells.toList.length = (ev tm y).cells.length := by simpa using h1
      have h2' : ∀ (i : Nat) (v : Value) (d : D), (a.eval y).cells.toList[i]? = some v → (ev tm y).cells[i]? = some d → Rep g w v d := fun i v d k1 k2 => h2 i v d (by simpa using k1) k2
      have hst := run_storeCells_at (P := P) b off T (a.eval y).cells.toList 0 c w hh (by omega) (ones_rep hlen hone h2')
      obtain ⟨k1, k2⟩ := setBox st.sim hl e hh (c.toList.take (off + 0) ++ (a.eval y).cells.toList ++ c.toList.drop (off + 0 + (a.eval y).cells.toList.length)).toArray (splice ds off (ev tm y).cells)
        (by rw [splice_length (by omega)]; have hcl : c.toList.length = c.size := Array.length_toList; simp only [List.size_toArray, List.length_append, List.length_take, List.length_drop, hlen]; omega) (by
          intro i v d g1 g2
          simp only [List.getElem?_toArray, Nat.add_zero] at g1
          rw [getElem?_splice _ _ _ (by have hcl : c.toList.length = c.size := Array.length_toList; omega)] at g1
          unfold splice at g2
          rw [getElem?_splice _ _ _ (by omega)] at g2
          rw [hlen] at g1
          split at g1
          · rename_i hi
            rw [if_pos hi] at g2
            exact hrep i v d (by simpa using g1) g2
          · rename_i hi
            rw [if_neg hi] at g2
            split at g1
            · rename_i hi2
              rw [if_pos hi2] at g2
              exact h2' _ v d g1 g2
            · rename_i hi2
              rw [if_neg hi2] at g2
              exact hrep i v d (by simpa using g1) g2)
      refine ⟨g, _, ?_, k1, k2⟩
      have hsz' : (a.eval y).cells.size = sz := by rw [h1, hsz]
      simp only [execOp, Instr.storeAt, hv, Instr.sureAddr, storeVar, Sem.run_bind, Sem.run_pure, Result.andThen_ok, ht.sizeOf, hsz', ne_eq, not_true_eq_false, if_false, hst]) rest

/-- A struct's field: its type, its place. -/
def FD (P : Program) (s : TypeId) (i : Nat) (ft : TypeId) (off : Nat) : Prop := ∃ fs f, P.underlying s = some (.struct fs) ∧ fs[i]? = some f ∧ f.type = ft ∧ f.offset = off

def D.loc : D → Bool
  | .bp .. | .rp .. => true
  | _ => false
def D.shift (k : Nat) : D → D
  | .bp l o => .bp l (o + k)
  | .rp cs => .rp (cs.drop k)
  | _ => .any

theorem add_add (a : Addr) (m n : Nat) : (a.add m).add n = a.add (m + n) := by
  unfold Addr.add
  by_cases hm : m = 0
  · subst hm; simp
  · by_cases hn : n = 0
    · subst hn; simp
    · simp [hm, hn, Nat.add_assoc]
theorem add_lit (b o n : Nat) : (⟨b, o, none⟩ : Addr).add n = ⟨b, o + n, none⟩ := by unfold Addr.add; split <;> simp_all

theorem op_fieldAddr {s : TypeId} {x : Operand} {i ft off sz : Nat} {ag : Bool} (hd : dstOk N dst = true) (hf : FD P s i ft off) (ht : TI P ft sz ag) (hsz : Nat.blt 0 sz = true) (hx : (ev tm x).loc = true)
    (rest : AOps P N ops l Q (putO tm dst ((ev tm x).shift off)) S) : AOps P N ops (⟨dst, .fieldAddr s x i, ty, pos, after, none⟩ :: l) Q tm S :=
  .still rfl hd (fun g a w st => by
    obtain ⟨fs, f, hu, hi, rfl, rfl⟩ := hf
    have hsz : sz ≠ 0 := by
      have : 0 < sz := Nat.lt_of_succ_le (Nat.le_of_ble_eq_true hsz)
      omega
    have run : ∀ ad, (Instr.fieldAt s (.pointer (some ad)) i).run P w = .ok (.pointer (some (ad.add f.offset))) w := by
      intro ad
      simp [Instr.fieldAt, run_underlying hu, hi, Instr.sureAddr, fieldPlace, ht.sizeOf, hsz]
    revert hx
    have r := st.ev x
    generalize hdx : ev tm x = d at r ⊢
    generalize hvx : a.eval x = v at r ⊢
    intro hx
    cases r with
    | rp fn h1 h2 =>
      rename_i ad cs
      refine ⟨.pointer (some (ad.add f.offset)), by simp only [execOp, hvx, Sem.run_bind, run, Result.andThen_ok, Sem.run_pure], ?_⟩
      refine .rp (fun j => fn (f.offset + j)) (fun j d h => ?_) (fun j d h => ?_)
      · simp only [List.getElem?_drop] at h
        rw [add_add]
        exact h1 _ d h
      · simp only [List.getElem?_drop] at h
        exact h2 _ d h
    | bp e =>
      rename_i b l off
      refine ⟨.pointer (some ⟨b, off + f.offset, none⟩), by simp only [execOp, hvx, Sem.run_bind, run, Result.andThen_ok, Sem.run_pure, add_lit], ?_⟩
      exact .bp e
    | _ => simp [D.loc] at hx) rest

theorem op_field {s : TypeId} {x : Operand} {i ft off sz : Nat} {ag : Bool} {cs : List D} (hd : dstOk N dst = true) (hf : FD P s i ft off) (ht : TI P ft sz ag) (hx : (ev tm x).cells = cs) (hs : (ev tm x).solid = true)
    (hagg : (match ev tm x with | .agg _ => true | .val (.agg _) => true | _ => false) = true) (hlen : Nat.ble (off + bif ag then sz else 1) cs.length = true)
    (rest : AOps P N ops l Q (putO tm dst (D.ofCells ag sz (cs.drop off))) S) : AOps P N ops (⟨dst, .field s x i, ty, pos, after, none⟩ :: l) Q tm S :=
  .still rfl hd (fun g a w st => by
    subst hx
    obtain ⟨fs, f, hu, hi, rfl, rfl⟩ := hf
    have hlen := Nat.le_of_ble_eq_true hlen
    have r := st.ev x
    obtain ⟨h1, h2⟩ := rep_cells r hs
    have : ∃ vs, a.eval x = .agg vs := by
      revert hagg
      generalize ev tm x = d at r ⊢
      generalize a.eval x = v at r ⊢
      intro hagg
      cases r with
      | val v => cases v <;> simp at hagg; exact ⟨_, rfl⟩
      | agg => exact ⟨_, rfl⟩
      | _ => simp at hagg
    obtain ⟨vs, hv⟩ := this
    rw [hv] at h1 h2
    simp only [Value.cells] at h1 h2
    cases ag with
    | true =>
      simp only [cond_true] at hlen
      refine ⟨.agg (vs.extract f.offset (f.offset + sz)), ?_, ?_⟩
      · simp [execOp, hv, Instr.field, run_underlying hu, hi, part, asAgg, ht.isAgg, ht.sizeOf]
      · refine .agg (by simp; omega) ?_
        intro j v d k1 k2
        simp only [Array.getElem?_extract] at k1
        simp only [List.getElem?_take, List.getElem?_drop] at k2
        split at k2
        · split at k1
          · exact h2 _ v d k1 k2
          · cases k1
        · cases k2
    | false =>
      simp only [cond_false] at hlen
      have hlt : f.offset < vs.size := by omega
      have h0 : ((ev tm x).cells.drop f.offset).headD .any = (ev tm x).cells[f.offset] := by
        rw [List.headD_eq_head?_getD, List.head?_drop, List.getElem?_eq_getElem (by omega)]; rfl
      refine ⟨vs[f.offset], ?_, ?_⟩
      · simp [execOp, hv, Instr.field, run_underlying hu, hi, part, asAgg, ht.isAgg, hlt]
      · simp only [D.ofCells, cond_false, h0]
        exact h2 _ _ _ (Array.getElem?_eq_getElem hlt) (List.getElem?_eq_getElem (by omega))) rest

theorem op_indexAddr {t e : TypeId} {x y : Operand} {sz : Nat} {ag : Bool} {nl : Option Bool} {xs : List (List D)} {c : Cap} {k : IntKind} {n : Int} {cs : List D} (hd : dstOk N dst = true)
    (hu : P.underlying t = some (.slice e)) (ht : TI P e sz ag) (hsz : Nat.blt 0 sz = true) (hx : ev tm x = .sl nl xs c) (hy : ev tm y = .val (.int k n)) (h0 : 0 ≤ n) (hi : xs[n.toNat]? = some cs) (hcs : cs.length = sz)
    (rest : AOps P N ops l Q (putO tm dst (.rp cs)) S) : AOps P N ops (⟨dst, .indexAddr t x y, ty, pos, after, none⟩ :: l) Q tm S :=
  .still rfl hd (fun g a w st => by
    have hsz : 0 < sz := Nat.lt_of_succ_le (Nat.le_of_ble_eq_true hsz)
    have r := st.ev x
    rw [hx] at r
    have ey := st.ev y
    rw [hy] at ey
    have ey := ey.val_inv
    generalize hvx : a.eval x = v at r
    cases r with
    | sl st' f hn hcap hnone hnl hst hcell hrep hc =>
      rename_i ao len cap
      have hlt : n.toNat < xs.length := (List.getElem?_eq_some_iff.1 hi).1
      have hmem : cs ∈ xs := List.mem_of_getElem? hi
      have hst' : st' = sz := by rw [← hst cs hmem, hcs]
      subst hst'
      obtain ⟨ad, rfl, _⟩ := hcell _ cs hi 0 cs[0] (List.getElem?_eq_getElem (by omega))
      refine ⟨.pointer (some (ad.add (n.toNat * st'))), ?_, ?_⟩
      · have : 0 ≤ n ∧ n < (len : Int) := ⟨h0, by omega⟩
        simp [execOp, hvx, ey, Instr.indexAt, asIntOf, run_underlying hu, this, ht.sizeOf]
      · refine .rp (f n.toNat) (fun j d h => ?_) (fun j d h => hrep _ _ hi j d h)
        obtain ⟨ad', e', k'⟩ := hcell _ cs hi j d h
        cases e'
        rw [add_add]
        exact k') rest

theorem op_len {t e : TypeId} {x : Operand} {cs : Array TypeId} {nl : Option Bool} {xs : List (List D)} {c : Cap} (hd : dstOk N dst = true) (hu : P.underlying t = some (.slice e)) (hx : ev tm x = .sl nl xs c)
    (rest : AOps P N ops l Q (putO tm dst (.val (.int .i64 (xs.length : Int)))) S) : AOps P N ops (⟨dst, .call ⟨.builtin .len, #[x], #[t]⟩, ty, pos, after, none⟩ :: l) Q tm S :=
  .still rfl hd (fun g a w st => by
    have r := st.ev x
    rw [hx] at r
    generalize hvx : a.eval x = v at r
    cases r with
    | sl st' f hn hcap hnone hnl hst hcell hrep hc =>
      subst hn
      refine ⟨_, ?_, .val _⟩
      simp [execOp, resolve, invoke, builtin, hvx, Builtin.len_, run_underlying hu, goInt]) rest
end ops
end Go.Abs
