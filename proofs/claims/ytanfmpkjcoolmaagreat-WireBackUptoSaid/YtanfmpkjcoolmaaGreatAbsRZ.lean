/- What the arguments read as, told as abstract values. -/
import Derived.Test.YtanfmpkjcoolmaaGreatAbsA
import Derived.Test.YtanfmpkjcoolmaaGreatRows
import Derived.ChangeArms
import Derived.WideShapes
import Derived.JoinedCond
import Derived.ProofKit
import Derived.Carry
set_option linter.unusedVariables false
set_option linter.unusedSimpArgs false
namespace Go.Proofs.YtanfmpkjcoolmaaGreat.Rd
open Go Go.Abs Go.RowKit

abbrev bulk {H : Type} (d : DataW H) : Nat := Rows.uptoBulk d
abbrev bulkAll {H : Type} (l : List (DataW H)) : Nat := Rows.uptoBulkAll l

theorem one_le {H : Type} (d : DataW H) : 1 ≤ bulk d := by
 cases d with
 | lit l => cases l <;> simp [bulk, Rows.uptoBulk]
 | nil => simp [bulk, Rows.uptoBulk]
 | ptr d => simp [bulk, Rows.uptoBulk]
 | slice elems spare => simp [bulk, Rows.uptoBulk]
 | agg parts => simp [bulk, Rows.uptoBulk]
 | iface t d => simp [bulk, Rows.uptoBulk]
 | map entries => simp [bulk, Rows.uptoBulk]
 | held h => simp [bulk, Rows.uptoBulk]

theorem bulkAll_sum {H : Type} : ∀ (l : List (DataW H)), bulkAll l = (l.map bulk).sum
  | [] => rfl
  | d :: l => by
    show Rows.uptoBulkAll (d :: l) = _
    rw [Rows.uptoBulkAll, List.map_cons, List.sum_cons]
    exact congrArg _ (bulkAll_sum l)

/-- All that lies in memory when the call begins is read only. -/
def g0 (w : World) : G := { eta := fun _ => none, row := fun _ => none, lim := fun b => match w.heap[b]? with | some (.cells c _ _) => c.size | _ => 0, own := fun _ => none, base := 0 }
theorem g0_sim (w : World) : Sim (g0 w) w [] :=
  ⟨fun l ob h => by simp at h, fun _ _ => rfl, fun _ _ => rfl, fun b l h => (by cases h), fun b h => by simp only [g0]; rw [Array.getElem?_eq_none h]⟩
theorem g0_at {w : World} {a : Addr} {v : Value} (h : w.cell? a = some v) (h1 : v.oneCell' = true) : At (g0 w) w a v := by
 refine ⟨h, ?_, h1⟩
 unfold World.cell? at h
 simp only [g0]
 split at h
 · rename_i c e f hb
   rw [hb]
   split at h
   · cases h
   exact (Array.getElem?_eq_some_iff.1 h).1
 · cases h

def CR (w : World) (cs : List Value) (ds : List D) : Prop := cs.length = ds.length ∧ ∀ (i : Nat) (c : Value) (d : D), cs[i]? = some c → ds[i]? = some d → Rep (g0 w) w c d

/-- A type's readings: what they are in Lean, as cells, what holds of them, how much they hold. -/
structure Ty (P : Program) (t : TypeId) {α : Type} (enc : α → List D) (ok : α → Prop) (sz : α → Nat) : Prop where
  read : ∀ {H : Type} {ec : TypeId × Value → H} {w : World} {base fuel : Nat} {cs : List Value} {d : DataW H} {ps : List MemPlace}, DataW.trod ec P w base (fun _ => true) true fuel t cs = some (d, ps) → ∃ a, ok a ∧ CR w cs (enc a) ∧ sz a ≤ bulk d
  one : ∀ a, ∀ d ∈ enc a, d.one = true
  len : ∀ a, (enc a).length = P.cellsOf t

variable {P : Program} {t : TypeId}

theorem CR.one {w : World} {v : Value} {d : D} (r : Rep (g0 w) w v d) : CR w [v] [d] := by
 refine ⟨rfl, fun i c x h1 h2 => ?_⟩
 cases i with
 | zero => simp at h1 h2; subst h1; subst h2; exact r
 | succ i => simp at h1

def okI (k : IntKind) (n : Int) : Prop := loK k ≤ n ∧ n ≤ hiK k
theorem wf_ok {k : IntKind} {n : Int} (h : (Lit.int k n).wf = true) : okI k n := by
 cases k <;> simp [Lit.wf, IntKind.min, IntKind.max, IntKind.signed, IntKind.bits] at h <;> simp only [okI, loK, hiK] <;> omega

theorem Ty.int {k : IntKind} (hu : P.underlying t = some (.int k)) (hc : P.cellsOf t = 1) : Ty P t (fun n : Int => [.val (.int k n)]) (okI k) (fun _ => 1) where
 read h := by
  obtain ⟨n, rfl, e, hw⟩ := DataW.trod_int hu h
  exact ⟨n, wf_ok hw, CR.one (.val _), one_le _⟩
 one a d hd := by simp only [List.mem_singleton] at hd; subst hd; rfl
 len a := hc.symm

theorem Ty.bool (hu : P.underlying t = some .bool) (hc : P.cellsOf t = 1) : Ty P t (fun b : Bool => [.val (.bool b)]) (fun _ => True) (fun _ => 1) where
 read h := by
  obtain ⟨n, rfl, e⟩ := DataW.trod_bool hu h
  exact ⟨n, trivial, CR.one (.val _), one_le _⟩
 one a d hd := by simp only [List.mem_singleton] at hd; subst hd; rfl
 len a := hc.symm

/-- The same, told otherwise. -/
theorem Ty.map {α β : Type} {enc : α → List D} {ok : α → Prop} {sz : α → Nat} {enc' : β → List D} {ok' : β → Prop} {sz' : β → Nat} (h : Ty P t enc ok sz) (f : α → β) (g : β → α) (hg : ∀ b, enc' b = enc (g b)) (he : ∀ a, enc' (f a) = enc a) (hok : ∀ a, ok a → ok' (f a)) (hsz : ∀ a, sz' (f a) ≤ sz a) : Ty P t enc' ok' sz' where
 read hr := by
  obtain ⟨a, h1, h2, h3⟩ := h.read hr
  exact ⟨f a, hok a h1, by rw [he]; exact h2, Nat.le_trans (hsz a) h3⟩
 one b d hd := h.one (g b) d (by rw [← hg]; exact hd)
 len b := by rw [hg]; exact h.len (g b)

/-- A struct's fields, one behind the other. -/
structure Fs (P : Program) (fs : List Field) (off till : Nat) {α : Type} (enc : α → List D) (ok : α → Prop) (sz : α → Nat) : Prop where
  read : ∀ {H : Type} {ec : TypeId × Value → H} {w : World} {base n : Nat} {cs : List Value} {xs : List (DataW H × List MemPlace)}, xs.length = fs.length → till ≤ cs.length →
    (∀ (i : Nat) (f : Field), fs[i]? = some f → DataW.trod ec P w base (fun _ => true) true n f.type ((cs.drop f.offset).take (P.cellsOf f.type)) = xs[i]?) → ∃ a, ok a ∧ CR w ((cs.drop off).take (till - off)) (enc a) ∧ sz a ≤ bulkAll (xs.map (·.1))
  one : ∀ a, ∀ d ∈ enc a, d.one = true
  len : ∀ a, off + (enc a).length = till

theorem Fs.nil (off : Nat) : Fs P [] off off (fun _ : Unit => []) (fun _ => True) (fun _ => 0) where
 read h _ _ := ⟨(), trivial, ⟨by simp, fun i c d h1 h2 => by simp at h2⟩, Nat.zero_le _⟩
 one a d hd := by cases hd
 len a := rfl

theorem CR.append {w : World} {c1 c2 : List Value} {d1 d2 : List D} (h1 : CR w c1 d1) (h2 : CR w c2 d2) : CR w (c1 ++ c2) (d1 ++ d2) := by
 refine ⟨by simp [h1.1, h2.1], fun i c d e1 e2 => ?_⟩
 by_cases hi : i < c1.length
 · rw [List.getElem?_append_left hi] at e1
   rw [List.getElem?_append_left (by rw [← h1.1]; exact hi)] at e2
   exact h1.2 i c d e1 e2
 · rw [List.getElem?_append_right (by omega)] at e1
   rw [List.getElem?_append_right (by rw [← h1.1]; omega), ← h1.1] at e2
   exact h2.2 _ c d e1 e2

theorem Fs.cons {f : Field} {fs : List Field} {off till n : Nat} {α β : Type} {e1 : α → List D} {o1 : α → Prop} {s1 : α → Nat} {e2 : β → List D} {o2 : β → Prop} {s2 : β → Nat} (h1 : Ty P f.type e1 o1 s1) (hoff : f.offset = off) (hn : P.cellsOf f.type = n) (h2 : Fs P fs (off + n) till e2 o2 s2) :
 Fs P (f :: fs) off till (fun p : α × β => e1 p.1 ++ e2 p.2) (fun p => o1 p.1 ∧ o2 p.2) (fun p => s1 p.1 + s2 p.2) where
 read := by
  intro H ec w base m cs xs hl hc hx
  cases xs with
  | nil => simp at hl
  | cons x xs =>
   have hx0 := hx 0 f rfl
   simp only [List.getElem?_cons_zero] at hx0
   obtain ⟨d, ps⟩ := x
   obtain ⟨a, ha1, ha2, ha3⟩ := h1.read hx0
   obtain ⟨b, hb1, hb2, hb3⟩ := h2.read (cs := cs) (xs := xs) (by simpa using hl) hc (fun i f' hf => by simpa using hx (i + 1) f' (by simpa using hf))
   refine ⟨(a, b), ⟨ha1, hb1⟩, ?_, ?_⟩
   · have hle : off + n ≤ till := by have := h2.len b; omega
     have : (cs.drop off).take (till - off) = (cs.drop off).take n ++ (cs.drop (off + n)).take (till - (off + n)) := by
      rw [show till - off = n + (till - (off + n)) by omega, List.take_add, List.drop_drop]
     rw [this]
     rw [hoff, hn] at ha2
     exact ha2.append hb2
   rw [bulkAll_sum, List.map_cons, List.map_cons, List.sum_cons, ← bulkAll_sum]
   exact Nat.add_le_add ha3 hb3
 one p d hd := by
  rcases List.mem_append.1 hd with h | h
  · exact h1.one _ d h
  exact h2.one _ d h
 len p := by
  have k1 := h1.len p.1
  have k2 := h2.len p.2
  rw [List.length_append]; omega

theorem Ty.struct {fs : Array Field} {α : Type} {enc : α → List D} {ok : α → Prop} {sz : α → Nat} (hu : P.underlying t = some (.struct fs)) (h : Fs P fs.toList 0 (P.cellsOf t) enc ok sz) : Ty P t enc ok sz where
 read := by
  intro H ec w base fuel cs d ps hr
  obtain ⟨xs, n, rfl, e, hl, hxl, hx⟩ := DataW.trod_struct hu hr
  simp only [Prod.mk.injEq] at e
  obtain ⟨rfl, rfl⟩ := e
  obtain ⟨a, h1, h2, h3⟩ := h.read (cs := cs) (xs := xs) (by simpa using hxl) (by omega) (fun i f hf => hx i f (by simpa using hf))
  refine ⟨a, h1, ?_, ?_⟩
  · rw [Nat.sub_zero, List.drop_zero, List.take_of_length_le (by omega)] at h2
    exact h2
  show _ ≤ Rows.uptoBulk (.agg (xs.map (·.1)))
  rw [Rows.uptoBulk]
  exact Nat.le_trans h3 (Nat.le_succ _)
 one := h.one
 len a := by have := h.len a; omega

/-- The same, with the struct's size told apart. -/
theorem Ty.structN {fs : Array Field} {n : Nat} {α : Type} {enc : α → List D} {ok : α → Prop} {sz : α → Nat} (hu : P.underlying t = some (.struct fs)) (hn : P.cellsOf t = n) (h : Fs P fs.toList 0 n enc ok sz) : Ty P t enc ok sz := by
 subst hn
 exact Ty.struct hu h

theorem list_of {α : Type} {p : Nat → α → Prop} : ∀ (n : Nat), (∀ i, i < n → ∃ a, p i a) → ∃ l : List α, l.length = n ∧ ∀ (i : Nat) (a : α), l[i]? = some a → p i a
  | 0, _ => ⟨[], rfl, fun i a h => by simp at h⟩
  | n + 1, h => by
    obtain ⟨l, h1, h2⟩ := list_of n (fun i hi => h i (by omega))
    obtain ⟨a, ha⟩ := h n (by omega)
    refine ⟨l ++ [a], by simp [h1], fun i b hb => ?_⟩
    rcases getElem?_snoc hb with ⟨hb, _⟩ | ⟨rfl, rfl⟩
    · exact h2 i b hb
    · rw [h1]; exact ha

theorem sum_le {α β : Type} {f : α → Nat} {g : β → Nat} : ∀ {l : List α} {m : List β}, l.length = m.length → (∀ (i : Nat) (a : α) (b : β), l[i]? = some a → m[i]? = some b → f a ≤ g b) → (l.map f).sum ≤ (m.map g).sum
  | [], [], _, _ => Nat.le_refl _
  | a :: l, b :: m, hl, h => by
    simp only [List.map_cons, List.sum_cons]
    exact Nat.add_le_add (h 0 a b rfl rfl) (sum_le (by simpa using hl) (fun i a b h1 h2 => h (i + 1) a b (by simpa using h1) (by simpa using h2)))
  | [], b :: m, hl, _ => by simp at hl
  | a :: l, [], hl, _ => by simp at hl

theorem cells?_get {w : World} {base n : Nat} {a : Addr} {cs : List Value} (h : w.cells? base a n = some cs) : cs.length = n ∧ ∀ (j : Nat) (c : Value), cs[j]? = some c → w.cell? (a.add j) = some c := by
 unfold World.cells? at h
 split at h
 · have hl := mapM_some_length h
   simp only [List.length_range] at hl
   refine ⟨hl, fun j c hj => ?_⟩
   have hlt : j < n := by rw [← hl]; exact (List.getElem?_eq_some_iff.1 hj).1
   rw [mapM_some_get h j j (by simp [hlt])]
   exact hj
 · cases h

theorem Ty.slice {e : TypeId} {α : Type} {enc : α → List D} {ok : α → Prop} {sz : α → Nat} (hu : P.underlying t = some (.slice e)) (hc : P.cellsOf t = 1) (h : Ty P e enc ok sz) :
 Ty P t (fun l : List α => [.sl none (l.map enc) .ro]) (fun l => ∀ a ∈ l, ok a) (fun l => (l.map sz).sum + 1) where
 read := by
  intro H ec w base fuel cs d ps hr
  rcases DataW.trod_slice hu hr with ⟨rfl, e'⟩ | ⟨a, len, cap, elems, rest, n, rfl, rfl, e', hb, hle, hcap, hlen, hel, _, _⟩
  · exact ⟨[], ⟨fun a h => (by cases h), CR.one (rep_nil.ro_ (fun x _ => rfl)), one_le _⟩⟩
  simp only [Prod.mk.injEq] at e'
  obtain ⟨rfl, rfl⟩ := e'
  have hall : ∀ i, i < len → ∃ x, ok x ∧ (∃ cs, w.cells? base (a.add (i * P.cellsOf e)) (P.cellsOf e) = some cs ∧ CR w cs (enc x)) ∧ ∃ y, elems[i]? = some y ∧ sz x ≤ bulk y.1 := by
   intro i hi
   have k := hel i hi
   have hy : elems[i]? = some elems[i] := List.getElem?_eq_getElem (by omega)
   rw [hy] at k
   obtain ⟨cs, h1, h2⟩ := Option.bind_eq_some_iff.1 k
   obtain ⟨x, q1, q2, q3⟩ := h.read h2
   exact ⟨x, q1, ⟨cs, h1, q2⟩, _, hy, q3⟩
  obtain ⟨l, hl1, hl2⟩ := list_of len hall
  have hget : ∀ (i : Nat) (x : List D), (l.map enc)[i]? = some x → ∃ y, l[i]? = some y ∧ x = enc y := by
   intro i x hx
   rw [List.getElem?_map, Option.map_eq_some_iff] at hx
   obtain ⟨y, h1, h2⟩ := hx
   exact ⟨y, h1, h2.symm⟩
  have hcell : ∀ (i : Nat) (x : List D), (l.map enc)[i]? = some x → ∀ (j : Nat) (d : D), x[j]? = some d → ∃ v, w.cell? (a.add (i * P.cellsOf e + j)) = some v ∧ Rep (g0 w) w v d ∧ v.oneCell' = true := by
   intro i x hx j d hd
   obtain ⟨y, hy, rfl⟩ := hget i x hx
   obtain ⟨_, ⟨cs, q1, q2⟩, _⟩ := hl2 i y hy
   obtain ⟨c1, c2⟩ := cells?_get q1
   obtain ⟨c, hc'⟩ : ∃ c, cs[j]? = some c := ⟨cs[j]'(by rw [q2.1]; exact (List.getElem?_eq_some_iff.1 hd).1), List.getElem?_eq_getElem _⟩
   refine ⟨c, ?_, q2.2 j c d hc' hd, rep_one (q2.2 j c d hc' hd) (h.one y d (List.mem_of_getElem? hd))⟩
   rw [← add_add]; exact c2 j c hc'
  refine ⟨l, ?_, CR.one ?_, ?_⟩
  · intro x hx
    obtain ⟨i, hi⟩ := List.getElem?_of_mem hx
    exact (hl2 i x hi).1
  · refine .sl (P.cellsOf e) (fun i j => (w.cell? (a.add (i * P.cellsOf e + j))).getD undef) (by simp [hl1]) hle (fun e => by cases e) (fun b hb => by cases hb) ?_ ?_ ?_ trivial
    · intro x hx
      obtain ⟨y, _, rfl⟩ := List.mem_map.1 hx
      exact h.len y
    · intro i x hx j d hd
      obtain ⟨v, h1, h2, h3⟩ := hcell i x hx j d hd
      refine ⟨a, rfl, ?_⟩
      rw [h1]
      exact g0_at h1 h3
    intro i x hx j d hd
    obtain ⟨v, h1, h2, h3⟩ := hcell i x hx j d hd
    rw [h1]; exact h2
  show _ ≤ Rows.uptoBulk (.slice (elems.map (·.1)) (rest.map (·.1)))
  rw [Rows.uptoBulk]
  have : (l.map sz).sum ≤ ((elems.map (·.1)).map bulk).sum := by
   rw [List.map_map]
   refine sum_le (by rw [hl1, hlen]) (fun i x y hx hy => ?_)
   obtain ⟨_, _, y', hy', q⟩ := hl2 i x hx
   rw [hy] at hy'; cases hy'
   exact q
  rw [← bulkAll_sum] at this
  have k : bulkAll (elems.map (·.1)) = Rows.uptoBulkAll (elems.map (·.1)) := rfl
  omega
 one l d hd := by simp only [List.mem_singleton] at hd; subst hd; rfl
 len l := hc.symm

theorem arg_one {W : World} {v : Value} {d : D} (h : CR W [v] [d]) : Rep (g0 W) W v d := h.2 0 v d rfl rfl
theorem arg_agg {W : World} {cs : Array Value} {ds : List D} (h : CR W cs.toList ds) : Rep (g0 W) W (.agg cs) (.agg ds) :=
  .agg (by simpa using h.1) (fun i v d hv hd => h.2 i v d (by simpa using hv) hd)
/-- A law's walk, from the memory as it lies. -/
theorem law_calls {f : FuncId} {ds : List D} (h : Does P f ds [] (.val (.bool true)) []) {W : World} {vs : List Value} (hr : CR W vs ds) : Calls P f vs.toArray W fun e W' => e = .returned (.bool true) ∧ Below W.heap.size W W' := by
 refine (h (g0 W) W vs.toArray (g0_sim W) (by simpa using hr.1) (fun i v d hv hd => hr.2 i v d (by simpa using hv) hd)).mono ?_
 rintro e W' ⟨v, g', rfl, hv, hs, hl⟩
 cases hv
 exact ⟨rfl, hl.2.os, hl.2.tape, hl.2.output, hl.2.size, fun k hk => (hl.2.old k hk rfl).1⟩
theorem CR.nil {W : World} : CR W [] [] := ⟨rfl, fun i c d h => by simp at h⟩
theorem CR.cons {W : World} {v : Value} {d : D} {vs : List Value} {ds : List D} (h : Rep (g0 W) W v d) (t : CR W vs ds) : CR W (v :: vs) (d :: ds) := (CR.one h).append t
end Go.Proofs.YtanfmpkjcoolmaaGreat.Rd
