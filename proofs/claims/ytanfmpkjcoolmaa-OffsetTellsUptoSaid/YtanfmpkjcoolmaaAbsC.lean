/- Memory: new variables, loads, stores, addresses. -/
import Derived.Test.YtanfmpkjcoolmaaAbsB
set_option linter.unusedVariables false
set_option linter.unusedSimpArgs false
namespace Go.Abs
variable {P : Program} {N : Nat} {ops : Array Oper} {l : List Oper} {Q : Exit → Tm → List Ob → Prop} {tm : Tm} {S : List Ob}

def upd {α : Type} (f : Nat → α) (i : Nat) (x : α) : Nat → α := fun j => if j = i then x else f j
theorem upd_same {α : Type} (f : Nat → α) (i : Nat) (x : α) : upd f i x i = x := by simp [upd]
theorem upd_other {α : Type} (f : Nat → α) {i j : Nat} (x : α) (h : j ≠ i) : upd f i x j = f j := by simp [upd, h]

theorem cell_block {w : World} {a : Addr} {v : Value} (h : w.cell? a = some v) : a.block < w.heap.size := World.block_lt_of_cell? w a h
theorem cell_same {w w' : World} {a : Addr} (h : w'.heap[a.block]? = w.heap[a.block]?) : w'.cell? a = w.cell? a := by unfold World.cell?; rw [h]
theorem heap_alloc_lt {w : World} {o : Obj} {b : Nat} (h : b < w.heap.size) : (w.alloc o).heap[b]? = w.heap[b]? := by
  simp only [World.alloc, Array.getElem?_push]
  rw [if_neg (by omega)]
theorem heap_alloc_eq {w : World} {o : Obj} : (w.alloc o).heap[w.heap.size]? = some o := by
  show (w.heap.push o)[w.heap.size]? = some o
  simp
theorem block_lt {w : World} {b : Nat} {o : Obj} (h : w.heap[b]? = some o) : b < w.heap.size := (Array.getElem?_eq_some_iff.1 h).1

theorem Spare.keep {g g' : G} {w w' : World} {l : Nat} {a : Option Addr} {n cap sz : Nat} (h : Spare g w l a n cap sz)
    (hb : ∀ b, g.own b = some l → w'.heap[b]? = w.heap[b]? ∧ g'.lim b = g.lim b ∧ g'.own b = some l) : Spare g' w' l a n cap sz := by
  obtain ⟨h1, h2, h3⟩ := h
  refine ⟨h1, h2, ?_⟩
  rcases h3 with h3 | ⟨b, off, c, T, e, ho, hh, hs, hlim⟩
  · exact .inl h3
  · obtain ⟨k1, k2, k3⟩ := hb b ho
    exact .inr ⟨b, off, c, T, e, k3, k1.trans hh, hs, k2.trans hlim⟩

theorem ObOk.keep {g g' : G} {w w' : World} {l : Nat} {ob : Ob} (h : ObOk g w l ob) (hl : Le g w g' w') (hx : Ext w w')
    (hb : ∀ b, g.own b = some l → w'.heap[b]? = w.heap[b]? ∧ g'.lim b = g.lim b ∧ g'.own b = some l) (hr : ∀ n h, g.row l = some (n, h) → g'.row l = some (n, h)) (hn : g.eta l = none → g.row l = none → g'.eta l = none ∧ g'.row l = none) : ObOk g' w' l ob := by
  cases ob with
  | box ds =>
    obtain ⟨b, c, T, he, ho, hh, hs, hlim, hrep⟩ := h
    obtain ⟨k1, k2, k3⟩ := hb b ho
    exact ⟨b, c, T, hl.eta _ _ he, k3, k1.trans hh, hs, k2.trans hlim, fun i v d h1 h2 => (hrep i v d h1 h2).mono hl⟩
  | row n sz =>
    obtain ⟨a, cap, e, hsp⟩ := h
    exact ⟨a, cap, hr _ _ e, hsp.keep hb⟩
  | dead => exact hn h.1 h.2
  | lent => trivial
  | seen J k =>
    obtain ⟨B, h1, h2⟩ := h
    exact ⟨B, fun b kb => (hb b (h1 b kb)).2.2, h2.keep hx (fun b kb => ⟨(hb b (h1 b kb)).1, (hb b (h1 b kb)).2.1⟩) hl.cell⟩

theorem getElem?_snoc {α : Type} {xs : List α} {x y : α} {i : Nat} (h : (xs ++ [x])[i]? = some y) : xs[i]? = some y ∧ i < xs.length ∨ i = xs.length ∧ y = x := by
  rcases Nat.lt_trichotomy i xs.length with hi | hi | hi
  · left; rw [List.getElem?_append_left hi] at h; exact ⟨h, hi⟩
  · right; subst hi; simp at h; exact ⟨rfl, h.symm⟩
  · rw [List.getElem?_eq_none (by simp; omega)] at h; cases h

/-- A new variable. -/
def gBox (g : G) (n b : Nat) : G := { g with eta := upd g.eta n (some b), own := upd g.own b (some n) }

theorem newBoxLe {g : G} {w : World} (hs : Sim g w S) (c : Array Value) (T : TypeId) (ds : List D) (hc : ds.length ≤ c.size)
    (hr : ∀ (i : Nat) (v : Value) (d : D), c[i]? = some v → ds[i]? = some d → Rep g w v d) :
    Sim (gBox g S.length w.heap.size) (w.alloc (.cells c T)) (S ++ [.box ds]) ∧ Later g w (gBox g S.length w.heap.size) (w.alloc (.cells c T)) := by
  have hown : g.own w.heap.size = none := by
    cases h : g.own w.heap.size with
    | none => rfl
    | some l => exact absurd (hs.own _ _ h).2 (by omega)
  have hle : Le g w (gBox g S.length w.heap.size) (w.alloc (.cells c T)) := by
    refine ⟨?_, ?_, ?_⟩
    · rintro a v ⟨h1, h2, h3⟩
      have hb := cell_block h1
      exact ⟨(cell_same (heap_alloc_lt hb)).trans h1, h2, h3⟩
    · intro l b h
      have : l ≠ S.length := by rintro rfl; rw [hs.noEta _ (Nat.le_refl _)] at h; cases h
      simp only [gBox]; rw [upd_other _ _ this]; exact h
    · intro l n h e
      exact ⟨n, h, e, .inr ⟨rfl, rfl⟩⟩
  refine ⟨⟨?_, ?_, ?_, ?_, ?_⟩, hle, ?_⟩
  · intro l ob h
    rcases getElem?_snoc h with ⟨h, hlt⟩ | ⟨rfl, rfl⟩
    · refine (hs.obs l ob h).keep hle ⟨by simp, rfl, rfl, rfl⟩ ?_ (fun n h e => e) (fun e1 e2 => ⟨by simp only [gBox]; rw [upd_other _ _ (by omega)]; exact e1, e2⟩)
      intro b ho
      have hb := (hs.own b l ho).2
      refine ⟨heap_alloc_lt hb, rfl, ?_⟩
      simp only [gBox]; rw [upd_other _ _ (by omega)]; exact ho
    · exact ⟨w.heap.size, c, T, by simp [gBox, upd_same], by simp [gBox, upd_same], heap_alloc_eq, hc, hs.lim _ (Nat.le_refl _), fun i v d h1 h2 => (hr i v d h1 h2).mono hle⟩
  · intro l h
    simp only [List.length_append, List.length_cons, List.length_nil] at h
    simp only [gBox]; rw [upd_other _ _ (by omega)]; exact hs.noEta l (by omega)
  · intro l h
    simp only [List.length_append, List.length_cons, List.length_nil] at h
    exact hs.noRow l (by omega)
  · intro b l h
    simp only [gBox] at h
    simp only [List.length_append, List.length_cons, List.length_nil, World.size_alloc]
    by_cases e : b = w.heap.size
    · subst e; rw [upd_same] at h; cases h; omega
    · rw [upd_other _ _ e] at h; have := hs.own b l h; omega
  · intro b h
    simp only [World.size_alloc] at h
    exact hs.lim b (by omega)
  · refine ⟨by simp, rfl, rfl, rfl, ?_, ?_, rfl⟩
    · intro b hb ho
      refine ⟨heap_alloc_lt hb, rfl, ?_⟩
      simp only [gBox]; rw [upd_other _ _ (by omega)]; exact ho
    · intro b l hb ho
      simp only [gBox]; rw [upd_other _ _ (by omega)]; exact ho

theorem newBox {g : G} {w : World} (hs : Sim g w S) (c : Array Value) (T : TypeId) (ds : List D) (hc : c.size = ds.length)
    (hr : ∀ (i : Nat) (v : Value) (d : D), c[i]? = some v → ds[i]? = some d → Rep g w v d) :
    Sim (gBox g S.length w.heap.size) (w.alloc (.cells c T)) (S ++ [.box ds]) ∧ Later g w (gBox g S.length w.heap.size) (w.alloc (.cells c T)) := newBoxLe hs c T ds (Nat.le_of_eq hc.symm) hr

/-- A new row that nobody writes any more: its cells are read. -/
def gRow (g : G) (b n : Nat) : G := { g with lim := upd g.lim b n }
theorem newRo {g : G} {w : World} (hs : Sim g w S) (c : Array Value) (T : TypeId) :
    Sim (gRow g w.heap.size c.size) (w.alloc (.cells c T)) S ∧ Later g w (gRow g w.heap.size c.size) (w.alloc (.cells c T)) := by
  have hown : g.own w.heap.size = none := by
    cases h : g.own w.heap.size with
    | none => rfl
    | some l => exact absurd (hs.own _ _ h).2 (by omega)
  have hle : Le g w (gRow g w.heap.size c.size) (w.alloc (.cells c T)) := by
    refine ⟨?_, fun l b h => h, fun l n h e => ⟨n, h, e, .inr ⟨rfl, rfl⟩⟩⟩
    rintro a v ⟨h1, h2, h3⟩
    have hb := cell_block h1
    refine ⟨(cell_same (heap_alloc_lt hb)).trans h1, ?_, h3⟩
    simp only [gRow]; rw [upd_other _ _ (by omega)]; exact h2
  refine ⟨⟨?_, hs.noEta, hs.noRow, ?_, ?_⟩, hle, ?_⟩
  · intro l ob h
    refine (hs.obs l ob h).keep hle ⟨by simp, rfl, rfl, rfl⟩ ?_ (fun n h e => e) (fun e1 e2 => ⟨e1, e2⟩)
    intro b ho
    have hb := (hs.own b l ho).2
    refine ⟨heap_alloc_lt hb, ?_, ho⟩
    simp only [gRow]; rw [upd_other _ _ (by omega)]
  · intro b l h
    have := hs.own b l h
    simp only [World.size_alloc]; omega
  · intro b h
    simp only [World.size_alloc] at h
    simp only [gRow]; rw [upd_other _ _ (by omega)]
    exact hs.lim b (by omega)
  · refine ⟨by simp, rfl, rfl, rfl, ?_, fun b l hb ho => ho, rfl⟩
    intro b hb ho
    refine ⟨heap_alloc_lt hb, ?_, ho⟩
    simp only [gRow]; rw [upd_other _ _ (by omega)]

/-- What the walks know of a type. -/
structure TI (P : Program) (t : TypeId) (sz : Nat) (ag : Bool) : Prop where
  info : (P.info? t).map (·.size) = some sz
  desc : (P.underlying t).map (fun d => match d with | .struct _ | .array _ _ => true | _ => false) = some ag
theorem TI.sizeOf {t : TypeId} {sz : Nat} {ag : Bool} (h : TI P t sz ag) (w : World) : (Go.sizeOf t).run P w = .ok sz w := by
  obtain ⟨i, hi, rfl⟩ := Option.map_eq_some_iff.1 h.info
  simp [Go.sizeOf, typeInfo, hi]
theorem TI.isAgg {t : TypeId} {sz : Nat} {ag : Bool} (h : TI P t sz ag) (w : World) : (Go.isAgg t).run P w = .ok ag w := by
  obtain ⟨d, hd, rfl⟩ := Option.map_eq_some_iff.1 h.desc
  simp only [Go.isAgg, Sem.run_bind, run_underlying hd, Result.andThen_ok]
  cases d <;> rfl

def D.cells : D → List D
  | .agg cs => cs
  | .val (.agg cs) => cs.toList.map ofV
  | d => [d]
def D.solid : D → Bool
  | .any => false
  | _ => true
theorem cells_agg (cs : Array Value) : (Value.agg cs).cells = cs := rfl
theorem rep_cells {g : G} {w : World} {v : Value} {d : D} (r : Rep g w v d) (hd : d.solid = true) :
    v.cells.size = d.cells.length ∧ ∀ (i : Nat) (c : Value) (x : D), v.cells[i]? = some c → d.cells[i]? = some x → Rep g w c x := by
  cases r with
  | any => simp [D.solid] at hd
  | val v =>
    cases v with
    | agg cs =>
      refine ⟨by simp [Value.cells, D.cells], ?_⟩
      intro i c x h1 h2
      simp only [Value.cells] at h1
      simp only [D.cells, List.getElem?_map, Array.getElem?_toList, h1, Option.map_some, Option.some.injEq] at h2
      subst h2
      exact rep_ofV c
    | _ =>
      refine ⟨by simp [Value.cells, D.cells], ?_⟩
      intro i c x h1 h2
      simp only [Value.cells] at h1
      simp only [D.cells] at h2
      cases i with
      | zero => simp at h1 h2; subst h1; subst h2; exact .val _
      | succ i => simp at h2
  | agg hs hrep => exact ⟨by simpa [Value.cells, D.cells] using hs, fun i c x h1 h2 => hrep i c x (by simpa [Value.cells] using h1) (by simpa [D.cells] using h2)⟩
  | sl st f h1 h2 h3 h4 h5 h6 h7 h8 =>
    refine ⟨by simp [Value.cells, D.cells], ?_⟩
    intro i c x k1 k2
    simp only [Value.cells] at k1
    simp only [D.cells] at k2
    cases i with
    | zero => simp at k1 k2; subst k1; subst k2; exact .sl st f h1 h2 h3 h4 h5 h6 h7 h8
    | succ i => simp at k2
  | rp f h1 h2 =>
    refine ⟨by simp [Value.cells, D.cells], ?_⟩
    intro i c x k1 k2
    simp only [Value.cells] at k1
    simp only [D.cells] at k2
    cases i with
    | zero => simp at k1 k2; subst k1; subst k2; exact .rp f h1 h2
    | succ i => simp at k2
  | bp h =>
    refine ⟨by simp [Value.cells, D.cells], ?_⟩
    intro i c x k1 k2
    simp only [Value.cells] at k1
    simp only [D.cells] at k2
    cases i with
    | zero => simp at k1 k2; subst k1; subst k2; exact .bp h
    | succ i => simp at k2
  | bs h hc =>
    refine ⟨by simp [Value.cells, D.cells], ?_⟩
    intro i c x k1 k2
    simp only [Value.cells] at k1
    simp only [D.cells] at k2
    cases i with
    | zero => simp at k1 k2; subst k1; subst k2; exact .bs h hc
    | succ i => simp at k2
  | tup hs h =>
    refine ⟨by simp [Value.cells, D.cells], ?_⟩
    intro i c x k1 k2
    simp only [Value.cells] at k1
    simp only [D.cells] at k2
    cases i with
    | zero => simp at k1 k2; subst k1; subst k2; exact .tup hs h
    | succ i => simp at k2
  | fn hs hs' h1 h2 =>
    refine ⟨by simp [Value.cells, D.cells], ?_⟩
    intro i c x k1 k2
    simp only [Value.cells] at k1
    simp only [D.cells] at k2
    cases i with
    | zero => simp at k1 k2; subst k1; subst k2; exact .fn hs hs' h1 h2
    | succ i => simp at k2

/-- One cell each? -/
def D.one : D → Bool
  | .any | .agg _ | .tup _ => false
  | .val v => v.oneCell'
  | _ => true
theorem rep_one {g : G} {w : World} {v : Value} {d : D} (r : Rep g w v d) (h : d.one = true) : v.oneCell' = true := by
  cases r <;> simp_all [D.one, Value.oneCell']

section ops
variable {dst : Option Tmp} {ty : TypeId} {pos : String} {after : Array Edge}

theorem op_alloc {elem : TypeId} {z : Value} (hd : dstOk N dst = true) (hz : (P.info? elem).map (·.zero) = some (some z))
    (rest : AOps P N ops l Q (putO tm dst (.bp S.length 0)) (S ++ [.box (z.cells.toList.map ofV)])) : AOps P N ops (⟨dst, .alloc elem, ty, pos, after, none⟩ :: l) Q tm S :=
  .value rfl hd (fun g a w st => by
    obtain ⟨i, hi, hz⟩ := Option.map_eq_some_iff.1 hz
    obtain ⟨k1, k2⟩ := newBox st.sim z.cells elem (z.cells.toList.map ofV) (by simp) (fun i v d h1 h2 => by
      simp only [List.getElem?_map, Array.getElem?_toList, h1, Option.map_some, Option.some.injEq] at h2
      subst h2
      exact rep_ofV v)
    refine ⟨.pointer (some ⟨w.heap.size, 0, none⟩), _, _, ?_, .bp (by simp [gBox, upd_same]), k1, k2⟩
    simp [execOp, Instr.alloc, zeroValue, typeInfo, hi, hz, newVar, newRow]) rest

theorem op_box {elem : TypeId} {x : Operand} (hd : dstOk N dst = true) (hx : (ev tm x).solid = true)
    (rest : AOps P N ops l Q (putO tm dst (.bp S.length 0)) (S ++ [.box (ev tm x).cells])) : AOps P N ops (⟨dst, .box elem x, ty, pos, after, none⟩ :: l) Q tm S :=
  .value rfl hd (fun g a w st => by
    obtain ⟨h1, h2⟩ := rep_cells (st.ev x) hx
    obtain ⟨k1, k2⟩ := newBox st.sim (a.eval x).cells elem (ev tm x).cells h1 h2
    refine ⟨.pointer (some ⟨w.heap.size, 0, none⟩), _, _, ?_, .bp (by simp [gBox, upd_same]), k1, k2⟩
    simp [execOp, Instr.box, newVar, newRow]) rest

/-- What lies at a pointer. -/
def D.at (S : List Ob) : D → Option (List D)
  | .bp l off => match S[l]? with
    | some (.box ds) => some (ds.drop off)
    | _ => none
  | .rp cs => some cs
  | _ => none
def D.ofCells (ag : Bool) (sz : Nat) (cs : List D) : D := bif ag then .agg (cs.take sz) else cs.headD .any

theorem at_rep {g : G} {w : World} (hs : Sim g w S) {v : Value} {d : D} {cs : List D} (r : Rep g w v d) (h : d.at S = some cs) :
    ∃ (ad : Addr) (f : Nat → Value), v = .pointer (some ad) ∧ (∀ (j : Nat) (x : D), cs[j]? = some x → w.cell? (ad.add j) = some (f j) ∧ Rep g w (f j) x) := by
  cases r with
  | rp f h1 h2 =>
    simp only [D.at, Option.some.injEq] at h
    subst h
    exact ⟨_, f, rfl, fun j x hx => ⟨(h1 j x hx).1, h2 j x hx⟩⟩
  | bp e =>
    rename_i b l off
    simp only [D.at] at h
    split at h
    · rename_i ds hds
      simp only [Option.some.injEq] at h
      subst h
      obtain ⟨b', c, T, he, ho, hh, hsz, hlim, hrep⟩ := hs.obs l _ hds
      rw [e] at he
      cases he
      refine ⟨_, fun j => c.getD (off + j) undef, rfl, fun j x hx => ?_⟩
      simp only [List.getElem?_drop] at hx
      have hlt : off + j < c.size := Nat.lt_of_lt_of_le (List.getElem?_eq_some_iff.1 hx).1 hsz
      have hadd : (⟨b, off, none⟩ : Addr).add j = ⟨b, off + j, none⟩ := by unfold Addr.add; split <;> simp_all
      have hget : c[off + j]? = some (c.getD (off + j) undef) := by simp [Array.getD, hlt]
      exact ⟨by rw [hadd]; simp only [World.cell?, hh]; simpa using hget, hrep _ _ x hget hx⟩
    · cases h
  | _ => simp [D.at] at h

theorem op_load {t : TypeId} {x : Operand} {sz : Nat} {ag : Bool} {cs : List D} (hd : dstOk N dst = true) (ht : TI P t sz ag) (hx : (ev tm x).at S = some cs) (hsz : Nat.ble (bif ag then sz else 1) cs.length = true)
    (rest : AOps P N ops l Q (putO tm dst (D.ofCells ag sz cs)) S) : AOps P N ops (⟨dst, .load t x, ty, pos, after, none⟩ :: l) Q tm S :=
  .still rfl hd (fun g a w st => by
    obtain ⟨ad, f, hv, hf⟩ := at_rep st.sim (st.ev x) hx
    have hsz := Nat.le_of_ble_eq_true hsz
    cases ag with
    | true =>
      simp only [cond_true] at hsz
      refine ⟨.agg ((List.range sz).map f).toArray, ?_, ?_⟩
      · simp only [execOp, Instr.loadAt, hv, Instr.sureAddr, loadVar, Sem.run_bind, Sem.run_pure, Result.andThen_ok, ht.isAgg, ht.sizeOf, if_true]
        rw [run_loadCells w ad sz f (fun j hj => (hf j cs[j] (List.getElem?_eq_getElem (by omega))).1)]
        rfl
      · refine .agg (by simp; omega) ?_
        intro i v d h1 h2
        simp only [List.getElem?_toArray, List.getElem?_map, List.getElem?_range'] at h1
        simp only [List.getElem?_take] at h2
        split at h2
        · rename_i hi
          rw [List.getElem?_range hi] at h1
          simp only [Option.map_some, Option.some.injEq] at h1
          subst h1
          exact (hf i d h2).2
        · cases h2
    | false =>
      simp only [cond_false] at hsz
      have h0 : cs[0]? = some (cs.headD .any) := by cases cs with | nil => simp at hsz | cons c cs => rfl
      refine ⟨f 0, ?_, (hf 0 _ h0).2⟩
      have hc := (hf 0 _ h0).1
      have : ad.add 0 = ad := by simp [Addr.add]
      rw [this] at hc
      simp [execOp, Instr.loadAt, hv, Instr.sureAddr, loadVar, ht.isAgg, hc]) rest
end ops
end Go.Abs
