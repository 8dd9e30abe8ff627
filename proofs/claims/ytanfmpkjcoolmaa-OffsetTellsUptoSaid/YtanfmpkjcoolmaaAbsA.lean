/- The abstract values, the ghosts, and what it means that a world stands for them: the ground of the walks of this claim. -/
import Derived.Calls
import Derived.Tactics
import Derived.Below
import Derived.WalkKit
import Derived.TacticsIn
import Derived.OrdersIn
import Derived.RangeFuncOwn
import Derived.Laws.Rows
import Derived.Deep.AppendSrc
import Derived.Laws.Cells
import Derived.Laws.IdiomCopy
set_option linter.unusedVariables false
set_option linter.unusedSimpArgs false
namespace Go.Abs

/-- May a slice be appended to: unknown; its capacity is its length; it is the row l. -/
inductive Cap where
  | ro | full | own (l : Nat)

/-- What is known of a value. -/
inductive D where
  | any
  | val (v : Value)
  | sl (nl : Option Bool) (xs : List (List D)) (c : Cap)
  | rp (cs : List D)
  | bp (l : Nat) (off : Nat)
  | bs (l off n : Nat)
  | agg (cs : List D)
  | tup (cs : List D)
  | fn (f : Fn) (first caps : List D)

/-- What may change: a variable in memory; a row that grows (its length, its elements' cells). -/
inductive Ob where
  | box (cs : List D)
  | row (n sz : Nat)
  | dead
  | seen (J : Option Nat → (Nat → Nat) → (Nat → Prop) → World → Prop) (k : Option Nat)
  | lent

structure G where
  eta : Nat → Option Nat
  row : Nat → Option (Nat × Value)
  lim : Nat → Nat
  own : Nat → Option Nat
  base : Nat

def AtL (lim : Nat → Nat) (w : World) (a : Addr) (v : Value) : Prop := w.cell? a = some v ∧ a.off < lim a.block ∧ v.oneCell' = true
/-- What is left alone by whatever runs besides. -/
structure Ext (w w' : World) : Prop where
  size : w.heap.size ≤ w'.heap.size
  os : w'.os = w.os
  tape : w'.tape = w.tape
  output : w'.output = w.output
theorem Ext.refl (w : World) : Ext w w := ⟨Nat.le_refl _, rfl, rfl, rfl⟩
theorem Ext.trans {w w' w'' : World} (h : Ext w w') (k : Ext w' w'') : Ext w w'' := ⟨Nat.le_trans h.size k.size, k.os.trans h.os, k.tape.trans h.tape, k.output.trans h.output⟩
/-- Another party's state, in its own blocks B: it stays while these stay. -/
def Stays (J : Option Nat → (Nat → Nat) → (Nat → Prop) → World → Prop) (k : Option Nat) (lim : Nat → Nat) (B : Nat → Prop) (w : World) : Prop :=
  ∀ (lim' : Nat → Nat) (w' : World), Ext w w' → (∀ b, B b → w'.heap[b]? = w.heap[b]? ∧ lim' b = lim b) → (∀ a v, AtL lim w a v → AtL lim' w' a v) → (∀ b, w'.heap.size ≤ b → lim' b = 0) → J k lim' B w'
theorem Stays.keep {J : Option Nat → (Nat → Nat) → (Nat → Prop) → World → Prop} {k : Option Nat} {lim lim1 : Nat → Nat} {B : Nat → Prop} {w w1 : World} (h : Stays J k lim B w) (hx : Ext w w1)
    (hb : ∀ b, B b → w1.heap[b]? = w.heap[b]? ∧ lim1 b = lim b) (ha : ∀ a v, AtL lim w a v → AtL lim1 w1 a v) : Stays J k lim1 B w1 := fun lim' w' e1 e2 e3 e4 =>
  h lim' w' (hx.trans e1) (fun b k => ⟨(e2 b k).1.trans (hb b k).1, (e2 b k).2.trans (hb b k).2⟩) (fun a v k => e3 a v (ha a v k)) e4

def At (g : G) (w : World) (a : Addr) (v : Value) : Prop := w.cell? a = some v ∧ a.off < g.lim a.block ∧ v.oneCell' = true

def CapOk (g : G) (v : Value) (n cap : Nat) : Cap → Prop
  | .ro => True
  | .full => cap = n
  | .own l => ∃ m h, g.row l = some (m, h) ∧ n ≤ m ∧ (n = m → v = h)

inductive Rep (g : G) (w : World) : Value → D → Prop
  | any (v : Value) : Rep g w v .any
  | val (v : Value) : Rep g w v (.val v)
  | sl {a : Option Addr} {n cap : Nat} {nl : Option Bool} {xs : List (List D)} {c : Cap} (st : Nat) (f : Nat → Nat → Value)
      (hn : xs.length = n) (hcap : n ≤ cap) (hnone : a = none → cap = 0) (hnl : ∀ b, nl = some b → a.isNone = b)
      (hst : ∀ x ∈ xs, x.length = st)
      (hcell : ∀ (i : Nat) (x : List D), xs[i]? = some x → ∀ (j : Nat) (d : D), x[j]? = some d → ∃ ad, a = some ad ∧ At g w (ad.add (i * st + j)) (f i j))
      (hrep : ∀ (i : Nat) (x : List D), xs[i]? = some x → ∀ (j : Nat) (d : D), x[j]? = some d → Rep g w (f i j) d)
      (hc : CapOk g (.slice a n cap) n cap c) : Rep g w (.slice a n cap) (.sl nl xs c)
  | rp {ad : Addr} {cs : List D} (f : Nat → Value)
      (hcell : ∀ (j : Nat) (d : D), cs[j]? = some d → At g w (ad.add j) (f j))
      (hrep : ∀ (j : Nat) (d : D), cs[j]? = some d → Rep g w (f j) d) : Rep g w (.pointer (some ad)) (.rp cs)
  | bp {b l off : Nat} (h : g.eta l = some b) : Rep g w (.pointer (some ⟨b, off, none⟩)) (.bp l off)
  | bs {b l off n cap : Nat} (h : g.eta l = some b) (hc : n ≤ cap) : Rep g w (.slice (some ⟨b, off, none⟩) n cap) (.bs l off n)
  | agg {vs : Array Value} {ds : List D} (hs : vs.size = ds.length)
      (hrep : ∀ (i : Nat) (v : Value) (d : D), vs[i]? = some v → ds[i]? = some d → Rep g w v d) : Rep g w (.agg vs) (.agg ds)
  | tup {vs : Array Value} {ds : List D} (hs : vs.size = ds.length)
      (hrep : ∀ (i : Nat) (v : Value) (d : D), vs[i]? = some v → ds[i]? = some d → Rep g w v d) : Rep g w (.tuple vs) (.tup ds)
  | fn {f : Fn} {fi ca : Array Value} {dfi dca : List D} (hs : fi.size = dfi.length) (hs' : ca.size = dca.length)
      (hrep : ∀ (i : Nat) (v : Value) (d : D), fi[i]? = some v → dfi[i]? = some d → Rep g w v d)
      (hrep' : ∀ (i : Nat) (v : Value) (d : D), ca[i]? = some v → dca[i]? = some d → Rep g w v d) : Rep g w (.func f fi ca) (.fn f dfi dca)

/-- Later: what could be read is read as before. -/
structure Le (g : G) (w : World) (g' : G) (w' : World) : Prop where
  cell : ∀ a v, At g w a v → At g' w' a v
  eta : ∀ l b, g.eta l = some b → g'.eta l = some b
  row : ∀ l n h, g.row l = some (n, h) → ∃ n' h', g'.row l = some (n', h') ∧ (n < n' ∨ (n' = n ∧ h' = h))

theorem Le.refl (g : G) (w : World) : Le g w g w := ⟨fun _ _ h => h, fun _ _ h => h, fun _ n h e => ⟨n, h, e, .inr ⟨rfl, rfl⟩⟩⟩

theorem Le.trans {g g' g'' : G} {w w' w'' : World} (h : Le g w g' w') (k : Le g' w' g'' w'') : Le g w g'' w'' where
  cell a v e := k.cell a v (h.cell a v e)
  eta l b e := k.eta l b (h.eta l b e)
  row l n x e := by
    obtain ⟨n1, x1, e1, d1⟩ := h.row l n x e
    obtain ⟨n2, x2, e2, d2⟩ := k.row l n1 x1 e1
    refine ⟨n2, x2, e2, ?_⟩
    rcases d1 with d1 | ⟨rfl, rfl⟩
    · rcases d2 with d2 | ⟨rfl, rfl⟩
      · exact .inl (by omega)
      · exact .inl d1
    · exact d2

theorem CapOk.mono {g g' : G} {w w' : World} (h : Le g w g' w') {v : Value} {n cap : Nat} : ∀ {c : Cap}, CapOk g v n cap c → CapOk g' v n cap c
  | .ro, _ => trivial
  | .full, e => e
  | .own l, ⟨m, x, e, hm, hx⟩ => by
    obtain ⟨n1, x1, e1, d1⟩ := h.row l m x e
    refine ⟨n1, x1, e1, ?_, ?_⟩
    · rcases d1 with d1 | ⟨rfl, rfl⟩ <;> omega
    · intro hn
      rcases d1 with d1 | ⟨rfl, rfl⟩
      · omega
      · exact hx hn

theorem Rep.mono {g g' : G} {w w' : World} (h : Le g w g' w') {v : Value} {d : D} (r : Rep g w v d) : Rep g' w' v d := by
  induction r with
  | any v => exact .any v
  | val v => exact .val v
  | sl st f hn hcap hnone hnl hst hcell hrep hc ih =>
    exact .sl st f hn hcap hnone hnl hst (fun i x hx j d hd => let ⟨ad, e, k⟩ := hcell i x hx j d hd; ⟨ad, e, h.cell _ _ k⟩) ih (hc.mono h)
  | rp f hcell hrep ih => exact .rp f (fun j d hd => h.cell _ _ (hcell j d hd)) ih
  | bp e => exact .bp (h.eta _ _ e)
  | bs e hc => exact .bs (h.eta _ _ e) hc
  | agg hs hrep ih => exact .agg hs ih
  | tup hs hrep ih => exact .tup hs ih
  | fn hs hs' hrep hrep' ih ih' => exact .fn hs hs' ih ih'

/-- What holds of an object. -/
def Spare (g : G) (w : World) (l : Nat) (a : Option Addr) (n cap sz : Nat) : Prop :=
  n ≤ cap ∧ (a = none → cap = 0) ∧
  (cap = n ∨ ∃ b off c T, a = some ⟨b, off, none⟩ ∧ g.own b = some l ∧ w.heap[b]? = some (.cells c T (0, 0)) ∧ off + cap * sz ≤ c.size ∧ g.lim b = off + n * sz)

def ObOk (g : G) (w : World) (l : Nat) : Ob → Prop
  | .box ds => ∃ b c T, g.eta l = some b ∧ g.own b = some l ∧ w.heap[b]? = some (.cells c T (0, 0)) ∧ ds.length ≤ c.size ∧ g.lim b = 0 ∧
      ∀ (i : Nat) (v : Value) (d : D), c[i]? = some v → ds[i]? = some d → Rep g w v d
  | .row n sz => ∃ a cap, g.row l = some (n, .slice a n cap) ∧ Spare g w l a n cap sz
  | .dead => g.eta l = none ∧ g.row l = none
  | .seen J k => ∃ B : Nat → Prop, (∀ b, B b → g.own b = some l) ∧ Stays J k g.lim B w
  | .lent => True

structure Sim (g : G) (w : World) (S : List Ob) : Prop where
  obs : ∀ l ob, S[l]? = some ob → ObOk g w l ob
  noEta : ∀ l, S.length ≤ l → g.eta l = none
  noRow : ∀ l, S.length ≤ l → g.row l = none
  own : ∀ b l, g.own b = some l → l < S.length ∧ b < w.heap.size
  lim : ∀ b, w.heap.size ≤ b → g.lim b = 0

/-- What lies outside the objects is as it was. -/
structure Fr (g : G) (w : World) (g' : G) (w' : World) : Prop where
  size : w.heap.size ≤ w'.heap.size
  os : w'.os = w.os
  tape : w'.tape = w.tape
  output : w'.output = w.output
  old : ∀ b, b < w.heap.size → g.own b = none → w'.heap[b]? = w.heap[b]? ∧ g'.lim b = g.lim b ∧ g'.own b = none
  kept : ∀ b l, b < w.heap.size → g.own b = some l → g'.own b = some l
  base : g'.base = g.base

theorem Fr.refl (g : G) (w : World) : Fr g w g w := ⟨Nat.le_refl _, rfl, rfl, rfl, fun _ _ h => ⟨rfl, rfl, h⟩, fun _ _ _ h => h, rfl⟩
theorem Fr.ext {g g' : G} {w w' : World} (h : Fr g w g' w') : Ext w w' := ⟨h.size, h.os, h.tape, h.output⟩

theorem Fr.trans {g g' g'' : G} {w w' w'' : World} (h : Fr g w g' w') (k : Fr g' w' g'' w'') : Fr g w g'' w'' where
  size := Nat.le_trans h.size k.size
  os := k.os.trans h.os
  tape := k.tape.trans h.tape
  output := k.output.trans h.output
  old b hb ho := by
    obtain ⟨e1, e2, e3⟩ := h.old b hb ho
    obtain ⟨f1, f2, f3⟩ := k.old b (Nat.lt_of_lt_of_le hb h.size) e3
    exact ⟨f1.trans e1, f2.trans e2, f3⟩
  kept b l hb ho := k.kept b l (Nat.lt_of_lt_of_le hb h.size) (h.kept b l hb ho)
  base := k.base.trans h.base

def Later (g : G) (w : World) (g' : G) (w' : World) : Prop := Le g w g' w' ∧ Fr g w g' w'
theorem Later.refl (g : G) (w : World) : Later g w g w := ⟨.refl g w, .refl g w⟩
theorem Later.trans {g g' g'' : G} {w w' w'' : World} (h : Later g w g' w') (k : Later g' w' g'' w'') : Later g w g'' w'' := ⟨h.1.trans k.1, h.2.trans k.2⟩

/-- The frame: slots. -/
abbrev Tm := Nat → D
def put (tm : Tm) (i : Nat) (d : D) : Tm := fun j => bif Nat.beq j i then d else tm j
def putO (tm : Tm) : Option Nat → D → Tm
  | some i, d => put tm i d
  | none, _ => tm
def empty : Tm := fun _ => .any
def frameOf (ds : List D) : Tm := fun i => ds.getD i .any

structure St (N : Nat) (g : G) (tm : Tm) (S : List Ob) (a : Act) (w : World) : Prop where
  size : a.tmps.size = N
  based : g.base ≤ w.heap.size
  once : a.defers.Nodup
  defers : ∀ d ∈ a.defers, ∃ b, d = { target := .collected b, args := #[] } ∧ g.base ≤ b ∧ g.own b = none ∧ w.heap[b]? = some (.deferred (some []))
  slots : ∀ i, Rep g w (a.tmps.getD i undef) (tm i)
  sim : Sim g w S

def Post (N : Nat) (Q : Exit → Tm → List Ob → Prop) (g : G) (w : World) (e : Exit) (a' : Act) (w' : World) : Prop :=
  ∃ g' tm' S', Q e tm' S' ∧ St N g' tm' S' a' w' ∧ Later g w g' w'

/-- Everything may be entered; ro: the round of a loop over a function in which the code runs. -/
def wideR (ro : Option Nat) : Fence := { Fence.wide with round := ro }

/-- It holds no loop over a function. -/
def nr : Code → Bool
  | .seq x y => nr x && nr y
  | .cond _ x y => nr x && nr y
  | .block _ c => nr c
  | .loop c => nr c
  | .scope c => nr c
  | .rangeFunc _ _ _ _ => false
  | _ => true
/-- A loop over a function within a round of another one is not taken in. -/
def RoOk (ro : Option Nat) (c : Code) : Prop := ro.isSome = true → nr c = true

def AWP (P : Program) (N : Nat) (c : Code) (Q : Exit → Tm → List Ob → Prop) (tm : Tm) (S : List Ob) : Prop :=
  ∀ ro, RoOk ro c → ∀ g a w, St N g tm S a w → c.wpIn (wideR ro) 0 P (Post N Q g w) a w

def AOps (P : Program) (N : Nat) (ops : Array Oper) (l : List Oper) (Q : Exit → Tm → List Ob → Prop) (tm : Tm) (S : List Ob) : Prop :=
  ∀ ro g a w, St N g tm S a w → wpListIn (wideR ro) 0 P ops (Post N Q g w) l a w

theorem wpList_mono {F : Fence} {n : Nat} {P : Program} {ops : Array Oper} {Q Q' : Exit → Act → World → Prop} (hq : ∀ e a w, Q e a w → Q' e a w) : ∀ (l : List Oper) (a : Act) (w : World), wpListIn F n P ops Q l a w → wpListIn F n P ops Q' l a w
  | [], a, w, h => hq _ _ _ h
  | o :: rest, a, w, h => by
    have ih := wpList_mono (F := F) (n := n) (P := P) (ops := ops) hq rest
    unfold wpListIn at h ⊢
    split
    · rename_i hw
      rw [if_pos hw] at h
      refine ⟨h.1, ?_⟩
      have h := h.2
      revert h
      generalize (o.semAt F.round a.eval).run P w = r
      intro h
      unfold Oper.uponIn at h ⊢
      split at h <;> first | exact ih _ _ h | skip
      · exact ⟨h.1, h.2.mono fun e w' he => by
          cases e with
          | returned v => exact ih _ _ he
          | panicked c => exact hq _ _ _ he
          | outgrown => obtain ⟨a₁, w₁, h1⟩ := he; exact ⟨a₁, w₁, hq _ _ _ h1⟩⟩
      · exact ⟨h.1, h.2.mono fun v w' he => ih _ _ he⟩
      · exact ⟨h.1, h.2.mono fun e w' he => by
          cases e with
          | returned v => exact ih _ _ he
          | panicked c => exact hq _ _ _ he
          | outgrown => obtain ⟨a₁, w₁, h1⟩ := he; exact ⟨a₁, w₁, hq _ _ _ h1⟩⟩
      · exact hq _ _ _ h
      · exact h.elim
    · rename_i hw
      rw [if_neg hw] at h
      exact ⟨h.1, ih _ _ h.2⟩

/-- One operation after which nothing is left to do but K. -/
theorem op_to {ro : Option Nat} {P : Program} {o : Oper} {a : Act} {w : World} {R : Exit → Act → World → Prop} {K : Act → World → Prop} {ops : Array Oper} {Q' : Exit → Act → World → Prop} (hno : ∀ e a' w', R e a' w' → e = .normal ∧ K a' w')
    (h1 : o.wpIn (wideR ro) 0 P a w (wpListIn (wideR ro) 0 P ops R []) R) : o.wpIn (wideR ro) 0 P a w K Q' := by
  refine ⟨h1.1, ?_⟩
  have h1 := h1.2
  revert h1
  generalize (o.semAt (wideR ro).round a.eval).run P w = r
  intro h1
  unfold Oper.uponIn at h1 ⊢
  split at h1 <;> first | exact (hno _ _ _ h1).2 | skip
  · exact ⟨h1.1, h1.2.mono fun e w' he => by
      cases e with
      | returned v => exact (hno _ _ _ he).2
      | panicked c => exact absurd (hno _ _ _ he).1 (by simp)
      | outgrown => obtain ⟨a₁, w₁, h3⟩ := he; exact absurd (hno _ _ _ h3).1 (by simp)⟩
  · exact ⟨h1.1, h1.2.mono fun v w' he => (hno _ _ _ he).2⟩
  · exact ⟨h1.1, h1.2.mono fun e w' he => by
      cases e with
      | returned v => exact (hno _ _ _ he).2
      | panicked c => exact absurd (hno _ _ _ he).1 (by simp)
      | outgrown => obtain ⟨a₁, w₁, h3⟩ := he; exact absurd (hno _ _ _ h3).1 (by simp)⟩
  · exact absurd (hno _ _ _ h1).1 (by simp)
  · exact h1.elim

theorem about_wide {ro : Option Nat} {o : Oper} {P : Program} {a : Act} {w : World} : ∀ f, o.about P w a.eval = some f → (wideR ro).fn f := fun _ _ => trivial
theorem depth_wide {ro : Option Nat} : (wideR ro).depth.isSome = true → 1 ≤ 0 := fun h => by cases h
/-- In a round, too, an operation is what it is (none puts off a call). -/
theorem run_semAt {ro : Option Nat} {ρ : Operand → Value} {o : Oper} {P : Program} {w w' : World} {n : Next} (h : (execOp ρ o).run P w = .ok n w') (hn : ∀ d, n ≠ .defer d) : (o.semAt ro ρ).run P w = .ok n w' := by
  rw [Oper.semAt_eq]
  · exact h
  · intro c hc
    unfold execOp at h
    rw [hc] at h
    simp only [Sem.run_bind] at h
    cases e : (resolve ρ c o.type).run P w with
    | ok d w1 => rw [e] at h; simp only [Result.andThen, Sem.run_pure] at h; cases h; exact hn _ rfl
    | halt x w1 => rw [e] at h; cases h

theorem Post.later {N : Nat} {Q : Exit → Tm → List Ob → Prop} {g g' : G} {w w' : World} (h : Later g w g' w') {e : Exit} {a : Act} {w'' : World} (k : Post N Q g' w' e a w'') : Post N Q g w e a w'' := by
  obtain ⟨g2, tm2, S2, q, st, l⟩ := k
  exact ⟨g2, tm2, S2, q, st, h.trans l⟩

section control
variable {P : Program} {N : Nat} {Q : Exit → Tm → List Ob → Prop} {tm : Tm} {S : List Ob}

def Then (next : Tm → List Ob → Prop) (Q : Exit → Tm → List Ob → Prop) : Exit → Tm → List Ob → Prop
  | .normal, tm, S => next tm S
  | e, tm, S => Q e tm S

theorem AWP.skip (h : Q .normal tm S) : AWP P N .skip Q tm S := fun ro hro g a w st => wpIn_skip ⟨g, tm, S, h, st, .refl g w⟩
theorem AWP.ret (h : Q .ret tm S) : AWP P N .ret Q tm S := fun ro hro g a w st => wpIn_ret ⟨g, tm, S, h, st, .refl g w⟩
theorem AWP.exit {id : Nat} (h : Q (.exit id) tm S) : AWP P N (.exit id) Q tm S := fun ro hro g a w st => wpIn_exit ⟨g, tm, S, h, st, .refl g w⟩
theorem AWP.mono {c : Code} {Q' : Exit → Tm → List Ob → Prop} (hq : ∀ e tm S, Q' e tm S → Q e tm S) (h : AWP P N c Q' tm S) : AWP P N c Q tm S :=
  fun ro hro g a w st => Code.wpIn_mono (fun e a' w' ⟨g', tm', S', q, k⟩ => ⟨g', tm', S', hq _ _ _ q, k⟩) (h ro hro g a w st)
theorem AWP.seq {x y : Code} (h : AWP P N x (Then (fun tm' S' => AWP P N y Q tm' S') Q) tm S) : AWP P N (.seq x y) Q tm S := fun ro hro g a w st => by
  have hx : RoOk ro x := fun h => by have := hro h; simp only [nr, Bool.and_eq_true] at this; exact this.1
  have hy : RoOk ro y := fun h => by have := hro h; simp only [nr, Bool.and_eq_true] at this; exact this.2
  refine wpIn_seq (Code.wpIn_mono ?_ (h ro hx g a w st))
  rintro e a' w' ⟨g', tm', S', q, st', l⟩
  cases e with
  | normal => exact Code.wpIn_mono (fun e a2 w2 k => Post.later l k) (q ro hy g' a' w' st')
  | exit id => exact ⟨g', tm', S', q, st', l⟩
  | goto k => exact ⟨g', tm', S', q, st', l⟩
  | ret => exact ⟨g', tm', S', q, st', l⟩
  | panic ch => exact ⟨g', tm', S', q, st', l⟩
  | outgrown => exact ⟨g', tm', S', q, st', l⟩
def InBlock (id : Nat) (Q : Exit → Tm → List Ob → Prop) : Exit → Tm → List Ob → Prop
  | .exit id', tm, S => bif Nat.beq id' id then Q .normal tm S else Q (.exit id') tm S
  | e, tm, S => Q e tm S
theorem AWP.block {id : Nat} {c : Code} (h : AWP P N c (InBlock id Q) tm S) : AWP P N (.block id c) Q tm S := fun ro hro g a w st => by
  refine wpIn_block (Code.wpIn_mono ?_ (h ro (fun k => by have := hro k; simpa only [nr] using this) g a w st))
  rintro e a' w' ⟨g', tm', S', q, st', l⟩
  cases e with
  | exit id' =>
    by_cases e : id' = id
    · subst e
      simp only [InBlock, Nat.beq_refl, cond_true] at q
      simp only [Exit.inBlock, if_true]
      exact ⟨g', tm', S', q, st', l⟩
    · have hb : Nat.beq id' id = false := by cases hh : Nat.beq id' id with | false => rfl | true => exact absurd (Nat.eq_of_beq_eq_true hh) e
      simp only [InBlock, hb, cond_false] at q
      simp only [Exit.inBlock, e, if_false]
      exact ⟨g', tm', S', q, st', l⟩
  | normal => exact ⟨g', tm', S', q, st', l⟩
  | goto k => exact ⟨g', tm', S', q, st', l⟩
  | ret => exact ⟨g', tm', S', q, st', l⟩
  | panic ch => exact ⟨g', tm', S', q, st', l⟩
  | outgrown => exact ⟨g', tm', S', q, st', l⟩

def ofV : Value → D
  | .slice none 0 0 => .sl (some true) [] .full
  | v => .val v

theorem rep_nil {g : G} {w : World} : Rep g w (.slice none 0 0) (.sl (some true) [] .full) :=
  .sl 0 (fun _ _ => undef) rfl (Nat.le_refl _) (fun _ => rfl) (fun b h => by cases h; rfl) (fun x h => by cases h) (fun i x h => by simp at h) (fun i x h => by simp at h) rfl

theorem rep_ofV {g : G} {w : World} (v : Value) : Rep g w v (ofV v) := by
  unfold ofV
  split
  · exact rep_nil
  · exact .val _

def ev (tm : Tm) : Operand → D
  | .tmp t => tm t
  | .const v => ofV v
  | .global _ => .any
  | .func f => .fn (.func f) [] []

theorem St.ev {g : G} {a : Act} {w : World} (st : St N g tm S a w) (x : Operand) : Rep g w (a.eval x) (ev tm x) := by
  cases x with
  | tmp t => exact st.slots t
  | const v => exact rep_ofV v
  | global n => exact .any _
  | func f => exact .fn rfl rfl (fun i v d h => by simp at h) (fun i v d h => by simp at h)

theorem AWP.cond {c : Operand} {x y : Code} {b : Bool} (hc : ev tm c = .val (.bool b)) (ht : b = true → AWP P N x Q tm S) (hf : b = false → AWP P N y Q tm S) : AWP P N (.cond c x y) Q tm S := fun ro hro g a w st => by
  have hx : RoOk ro x := fun h => by have := hro h; simp only [nr, Bool.and_eq_true] at this; exact this.1
  have hy : RoOk ro y := fun h => by have := hro h; simp only [nr, Bool.and_eq_true] at this; exact this.2
  have h := st.ev c
  rw [hc] at h
  generalize hv : a.eval c = v at h
  cases h
  exact wpIn_cond_split hv (fun e => ht e ro hx g a w st) (fun e => hf e ro hy g a w st)
theorem AWP.cond_true {c : Operand} {x y : Code} (hc : Abs.ev tm c = .val (.bool true)) (ht : AWP P N x Q tm S) : AWP P N (.cond c x y) Q tm S := AWP.cond hc (fun _ => ht) (fun e => by cases e)
theorem AWP.cond_false {c : Operand} {x y : Code} (hc : Abs.ev tm c = .val (.bool false)) (hf : AWP P N y Q tm S) : AWP P N (.cond c x y) Q tm S := AWP.cond hc (fun e => by cases e) (fun _ => hf)

/-- Something may be forgotten. -/
def FLe (tm tm' : Tm) : Prop := ∀ i, tm' i = .any ∨ tm' i = tm i
theorem FLe.refl (tm : Tm) : FLe tm tm := fun _ => .inr rfl
theorem FLe.empty (tm : Tm) : FLe tm Abs.empty := fun _ => .inl rfl
theorem FLe.put {tm tm' : Tm} {i : Nat} {d : D} (h : FLe tm tm') (e : tm i = d) : FLe tm (put tm' i d) := fun j => by
  unfold Abs.put
  cases hb : Nat.beq j i with
  | true => right; simp only [cond_true]; rw [← e, Nat.eq_of_beq_eq_true hb]
  | false => simpa only [cond_false] using h j
theorem St.forget {g : G} {a : Act} {w : World} {tm' : Tm} (st : St N g tm S a w) (h : FLe tm tm') : St N g tm' S a w :=
  ⟨st.size, st.based, st.once, st.defers, fun i => by rcases h i with e | e <;> rw [e]; exact .any _; exact st.slots i, st.sim⟩
theorem AWP.forget {c : Code} {tm' : Tm} (h : FLe tm tm') (k : AWP P N c Q tm' S) : AWP P N c Q tm S := fun ro hro g a w st => k ro hro g a w (st.forget h)

/-- A loop: at each round's head the frame is F p, the objects O p, for some p of which I holds; a measure goes down. -/
theorem AWP.loop {α : Type} (I : α → Prop) (F : α → Tm) (O : α → List Ob) (μ : α → Nat) {c : Code} (p₀ : α) (h₀ : I p₀) (hf : FLe tm (F p₀)) (hS : S = O p₀)
    (round : ∀ p, I p → AWP P N c (Then (fun tm' S' => ∃ p', I p' ∧ FLe tm' (F p') ∧ S' = O p' ∧ μ p' < μ p) Q) (F p) (O p)) : AWP P N (.loop c) Q tm S := fun ro hnr g a w st => by
  subst hS
  have hnc : RoOk ro c := fun k => by have := hnr k; simpa only [nr] using this
  intro b k cs hro hb hr
  have key : ∀ n p g' a' w', μ p = n → I p → St N g' (F p) (O p) a' w' → Later g w g' w' →
      ∃ e a2 w2, Post N Q g w e a2 w2 ∧ ArrivesIn (Machine.fenced P (wideR ro)) P (lone (b.atR a' (.code c :: .inLoop c :: k)) cs w') b k cs e a2 w2 := by
    intro n
    induction n using Nat.strongRecOn with
    | _ n ih =>
      intro p g' a' w' hn hI st' hl
      obtain ⟨e, a₁, w₁, ⟨g1, tm1, S1, q, st1, l1⟩, harr⟩ := round p hI ro hnc g' a' w' st' b (.inLoop c :: k) cs hro hb hr
      cases e with
      | normal =>
        obtain ⟨p', hI', hf', rfl, hlt⟩ := q
        obtain ⟨e₂, a₂, w₂, hq₂, harr₂⟩ := ih (μ p') (hn ▸ hlt) p' g1 a₁ w₁ rfl hI' (st1.forget hf') (hl.trans l1)
        exact ⟨e₂, a₂, w₂, hq₂, .of_steps (StepsIn.trans harr (.one (fenced_calm hb hr rfl) stepR_inLoop)) harr₂⟩
      | exit id => exact ⟨_, a₁, w₁, ⟨g1, tm1, S1, q, st1, hl.trans l1⟩, .pass (x := .inLoop c) rfl (fun _ _ => .inl (by simp)) harr⟩
      | goto l => exact ⟨_, a₁, w₁, ⟨g1, tm1, S1, q, st1, hl.trans l1⟩, .pass (x := .inLoop c) rfl (fun _ _ => .inl (by simp)) harr⟩
      | ret => exact ⟨_, a₁, w₁, ⟨g1, tm1, S1, q, st1, hl.trans l1⟩, .pass (x := .inLoop c) rfl (fun _ _ => .inl (by simp)) harr⟩
      | panic ch => exact ⟨_, a₁, w₁, ⟨g1, tm1, S1, q, st1, hl.trans l1⟩, .pass (x := .inLoop c) rfl (fun _ _ => .inl (by simp)) harr⟩
      | outgrown => exact ⟨_, a₁, w₁, ⟨g1, tm1, S1, q, st1, hl.trans l1⟩, .pass (x := .inLoop c) rfl (fun _ _ => .inl (by simp)) harr⟩
  obtain ⟨e, a', w', hq, harr⟩ := key _ p₀ g a w rfl h₀ (st.forget hf) (.refl g w)
  exact ⟨e, a', w', hq, .of_steps (.one (fenced_calm hb hr rfl) stepR_loop) harr⟩
end control
end Go.Abs
