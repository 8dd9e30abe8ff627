/- Copies that are no slice of a block where they are empty. -/
import Derived.Test.YtanfmpkjcoolmaaGreatAbsZv
set_option linter.unusedVariables false
set_option linter.unusedSimpArgs false
namespace Go.Abs
variable {P : Program} {N : Nat} {ops : Array Oper} {l : List Oper} {Q : Exit → Tm → List Ob → Prop} {tm : Tm} {S : List Ob}
def cd (k : Nat) : Nat → D
  | 0 => .sl none [] .ro
  | n + 1 => .bs k 0 (n + 1)
def co : List (List D) → Ob
  | [] => .dead
  | x :: xs => .box (x :: xs).flatten
theorem cd_one (k n : Nat) : (cd k n).one = true := by cases n <;> rfl
theorem cd_solid (k n : Nat) : (cd k n).solid = true := by cases n <;> rfl
theorem cd_cells (k n : Nat) : (cd k n).cells = [cd k n] := by cases n <;> rfl
theorem co_box {xs : List (List D)} (h : 0 < xs.length) : co xs = .box xs.flatten := by
  cases xs with
  | nil => cases h
  | cons x xs => rfl
theorem AOps.reserve (S' : List Ob) (e : S ++ [.dead] = S') (h : AOps P N ops l Q tm S') : AOps P N ops l Q tm S := fun ro g a w st => by
  subst e
  exact h ro g a w ⟨st.size, st.based, st.once, st.defers, st.slots, st.sim.reserve⟩
section ops
variable {t : Tmp} {ty : TypeId} {pos : String} {after : Array Edge}
theorem n_callCd {fo : Operand} {as : Array Operand} {ts : Array TypeId} {f : FuncId} {fi ca args : List D} {ds : List D} {xs : List (List D)} {k n : Nat} {S' : List Ob} (hd : Nat.blt t N = true) (hcf : CF P f) (hf : ev tm fo = .fn (.func f) fi ca)
    (ha : fi ++ as.toList.map (ev tm) ++ ca = args) (hargs : RenAll (fun _ _ => False) (fun _ _ => False) args ds) (h0 : xs.length = 0 → Does P f ds [] (.sl none [] .ro) []) (h1 : 0 < xs.length → Does P f ds [] (.bs 0 0 xs.length) [.box xs.flatten]) (hx : ∀ d ∈ xs.flatten, LF d) (hk : xs.length = k) (hn : S.length = n) (hS : S ++ [co xs] = S')
    (rest : AOps P N ops l Q (put tm t (cd n k)) S') : AOps P N ops (⟨some t, .call ⟨.value fo, as, ts⟩, ty, pos, after, none⟩ :: l) Q tm S := by
  subst hS hk
  cases xs with
  | nil =>
    refine AOps.reserve _ rfl ?_
    refine op_callG (dst := some t) hd hcf hf (h0 rfl) (ι := []) List.nodup_nil rfl (fun j ob' hj => by simp at hj) ?_ (by simp) (by simp) (fun l hl _ => rfl) (fun j l hj => by simp at hj)
      (fun k ob hk => ?_) (.lf (.sl (fun x h => by cases h) (.inl rfl))) rest
    · rw [ha]; exact hargs.mono (fun _ _ h => h.elim) (fun _ _ h => h.elim)
    · simp at hk
  | cons x xs => exact n_callNewBs hd hcf hf ha hargs (h1 (by simp)) hx hn rfl rest
theorem n_cdLen {tt e : TypeId} {x : Operand} {k n : Nat} (hd : Nat.blt t N = true) (hu : P.underlying tt = some (.slice e)) (hx : ev tm x = cd k n)
    (rest : AOps P N ops l Q (put tm t (.val (.int .i64 (n : Int)))) S) : AOps P N ops (⟨some t, .call ⟨.builtin .len, #[x], #[tt]⟩, ty, pos, after, none⟩ :: l) Q tm S := by
  cases n with
  | zero => exact n_len hd hu hx rfl rest
  | succ n => exact n_bsLen hd hu hx rest
theorem n_cdIndexAddr {tt e : TypeId} {x y : Operand} {sz q : Nat} {ag : Bool} {l0 n : Nat} {k : IntKind} {i : Int} (hd : Nat.blt t N = true)
    (hu : P.underlying tt = some (.slice e)) (ht : TI P e sz ag) (hx : ev tm x = cd l0 n) (hy : ev tm y = .val (.int k i)) (h0 : 0 ≤ i) (hi : i < (n : Int)) (hq : i.toNat * sz = q)
    (rest : AOps P N ops l Q (put tm t (.bp l0 q)) S) : AOps P N ops (⟨some t, .indexAddr tt x y, ty, pos, after, none⟩ :: l) Q tm S := by
  cases n with
  | zero => omega
  | succ n => exact n_bsIndexAddr hd hu ht hx hy h0 hi (by rw [Nat.zero_add]; exact hq) rest
end ops
/-- Writing one cell of one of the elements. -/
theorem splice_at {α : Type} {f : α → List D} {sz : Nat} {l : List α} {i o : Nat} {x y : α} {d : D} (hsz : ∀ a, (f a).length = sz) (hx : l[i]? = some x) (ho : o < sz) (hy : f y = (f x).set o d) : splice (l.map f).flatten (i * sz + o) [d] = ((l.set i y).map f).flatten := by
  obtain ⟨hi, hxe⟩ := List.getElem?_eq_some_iff.1 hx
  have h1 : l = l.take i ++ x :: l.drop (i + 1) := by rw [← hxe, ← List.drop_eq_getElem_cons hi, List.take_append_drop]
  have h2 : l.set i y = l.take i ++ y :: l.drop (i + 1) := by rw [List.set_eq_take_append_cons_drop, if_pos hi]
  have hA : ((l.take i).map f).flatten.length = i * sz := by
    rw [flat_len (sz := sz) (fun z hz => by obtain ⟨a, _, rfl⟩ := List.mem_map.1 hz; exact hsz a), List.length_map, List.length_take, Nat.min_eq_left (by omega)]
  have e1 : (l.map f).flatten = ((l.take i).map f).flatten ++ (f x ++ ((l.drop (i + 1)).map f).flatten) := by
    conv => lhs; rw [h1]
    rw [List.map_append, List.map_cons, List.flatten_append, List.flatten_cons]
  have e2 : ((l.set i y).map f).flatten = ((l.take i).map f).flatten ++ (f y ++ ((l.drop (i + 1)).map f).flatten) := by
    rw [h2, List.map_append, List.map_cons, List.flatten_append, List.flatten_cons]
  rw [e1, e2, hy]
  generalize ((l.take i).map f).flatten = A at *
  generalize ((l.drop (i + 1)).map f).flatten = B at *
  have hl := hsz x
  generalize f x = X at *
  unfold splice
  rw [List.length_singleton, ← hA, List.take_append, Nat.add_sub_cancel_left, List.take_of_length_le (by omega), List.take_append_of_le_length (by omega), Nat.add_assoc, List.drop_append, List.drop_of_length_le (by omega), List.nil_append, Nat.add_sub_cancel_left, List.drop_append_of_le_length (by omega), List.append_assoc, List.append_assoc, List.set_eq_take_append_cons_drop, if_pos (by omega)]
  simp
theorem flat_at {α : Type} {f : α → List D} {sz : Nat} {l : List α} {i o : Nat} {x : α} {d : D} (hsz : ∀ a, (f a).length = sz) (hx : l[i]? = some x) (hd : (f x)[o]? = some d) : ((l.map f).flatten)[i * sz + o]? = some d := by
  exact flat_get (fun z hz => by obtain ⟨a, _, rfl⟩ := List.mem_map.1 hz; exact hsz a) (by rw [List.getElem?_map, hx]; rfl) hd
end Go.Abs
namespace Go.Abs
/-- A result that lies in blocks, told as read-only memory. -/
theorem DoesK.show {P : Program} {f : FuncId} {ds : List D} {r : D} (h : DoesK P f ds [] (fun d S' => PeekM S' d r)) : Does P f ds [] r [] := by
  intro g w vs hs hsz hr
  refine (h g w vs hs hsz hr).mono ?_
  rintro e w' ⟨v, g', r', S', rfl, hp, hv, hs', hl⟩
  obtain ⟨lim, L1, L2⟩ := show_all hs'
  have hrep := hp.rep hs' L1 L2 hv
  have hno : ∀ b, g.own b = none := fun b => by
    cases h : g.own b with
    | none => rfl
    | some l => exact absurd (hs.own b l h).1 (by simp)
  have hlo : ∀ x, w'.heap.size ≤ x → ¬ Shown S' g' x := fun x hx k => by
    obtain ⟨_, c, T, e⟩ := shown_lim hs' k
    have := (Array.getElem?_eq_some_iff.1 e).1
    omega
  have hold : ∀ b, b < w.heap.size → ¬ Shown S' g' b := fun b hb k => by
    obtain ⟨l, cs, hl1, he⟩ := k
    obtain ⟨b2, c, T, e1, e2, e3, e4, e5, e6⟩ := hs'.obs l _ hl1
    rw [he] at e1; cases e1
    have := (hl.2.old b hb (hno b)).2.2
    rw [e2] at this; cases this
  have hown : ∀ x, ({ g'.sub [] with lim := lim } : G).own x = none := fun x => by
    simp only [G.sub]
    cases g'.own x with
    | none => rfl
    | some l => simp [idx]
  have hle : Le g w { g'.sub [] with lim := lim } w' := by
    refine ⟨fun ad u hu => ?_, fun l b k => ?_, fun l n x e => ?_⟩
    · have hab := cell_block hu.1
      obtain ⟨k1, k2, k3⟩ := hl.2.old _ hab (hno _)
      refine ⟨(cell_same k1).trans hu.1, ?_, hu.2.2⟩
      show ad.off < lim ad.block
      rw [L1 _ (hold _ hab), k2]; exact hu.2.1
    · have := hs.noEta l (by simp)
      rw [this] at k; cases k
    · have := hs.noRow l (by simp)
      rw [this] at e; cases e
  refine ⟨v, { g'.sub [] with lim := lim }, rfl, hrep, ?_, ⟨hle, hl.2.size, hl.2.os, hl.2.tape, hl.2.output, fun b hb _ => ?_, fun b l hb k => ?_, hl.2.base⟩⟩
  · refine ⟨fun l ob h => by simp at h, fun l _ => by simp [G.sub], fun l _ => by simp [G.sub], fun x l h => ?_, fun x hx => ?_⟩
    · rw [hown x] at h; cases h
    · show lim x = 0
      rw [L1 x (hlo x hx)]; exact hs'.lim x hx
  · obtain ⟨k1, k2, k3⟩ := hl.2.old b hb (hno b)
    refine ⟨k1, ?_, hown b⟩
    show lim b = _
    rw [L1 b (hold b hb), k2]
  · rw [hno b] at k; cases k
end Go.Abs
