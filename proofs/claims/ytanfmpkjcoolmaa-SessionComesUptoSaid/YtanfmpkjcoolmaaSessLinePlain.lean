/- Plain: two ends and what is on its way. -/
import Derived.Test.YtanfmpkjcoolmaaAbsZs
set_option linter.unusedVariables false
namespace Go.Abs
open Tb
theorem nfU : (∀ (S T : List Ob) (q r : Nat) (u v : Ob), ((S.set q u).set r v ++ T)[S.length]? = T[0]?) ∧ (∀ (S T : List Ob) (q r k : Nat) (u v : Ob), ((S.set q u).set r v ++ T)[S.length + k]? = T[k]?) := by
  refine ⟨fun S T q r u v => ?_, fun S T q r k u v => ?_⟩
  · have := nfT.1 (S.set q u) T r v; rwa [List.length_set] at this
  · have := nfT.2.1 (S.set q u) T r k v; rwa [List.length_set] at this
theorem nfV : ((∀ (S T U : List Ob), S ++ T ++ U = S ++ (T ++ U)) ∧ (∀ (S T : List Ob), (S ++ T).length = S.length + T.length) ∧ (∀ (S T : List Ob), (S ++ T)[S.length]? = T[0]?) ∧ (∀ (S T : List Ob) (k : Nat), (S ++ T)[S.length + k]? = T[k]?) ∧
    (∀ (S T : List Ob) (v : Ob), (S ++ T).set S.length v = S ++ T.set 0 v) ∧ (∀ (S T : List Ob) (k : Nat) (v : Ob), (S ++ T).set (S.length + k) v = S ++ T.set k v)) ∧ ((∀ (S T : List Ob) (r : Nat) (v : Ob), (S.set r v ++ T)[S.length]? = T[0]?) ∧ (∀ (S T : List Ob) (r k : Nat) (v : Ob), (S.set r v ++ T)[S.length + k]? = T[k]?) ∧ (∀ (S T : List Ob) (r : Nat) (v u : Ob), (S.set r v ++ T).set S.length u = S.set r v ++ T.set 0 u) ∧
    (∀ (S T : List Ob) (r k : Nat) (v u : Ob), (S.set r v ++ T).set (S.length + k) u = S.set r v ++ T.set k u) ∧ (∀ (S : List Ob) (r : Nat) (v : Ob), (S.set r v).length = S.length)) ∧ ((∀ (S T : List Ob) (q r : Nat) (u v : Ob), ((S.set q u).set r v ++ T)[S.length]? = T[0]?) ∧ (∀ (S T : List Ob) (q r k : Nat) (u v : Ob), ((S.set q u).set r v ++ T)[S.length + k]? = T[k]?)) := ⟨nfS, nfT, nfU⟩
structure Wy where
  to : Bool
  p : Pq
abbrev wyz (w : Wy) : List D := [vi (reg w.to), vi w.p.b, vi w.p.p, vi w.p.s, vi w.p.a, bys w.p.l]
abbrev z6 : List D := [vi 0, vi 0, vi 0, vi 0, vi 0, .sl (some true) [] .full]
abbrev z5 : List D := [vi 0, vi 0, vi 0, vi 0, .sl (some true) [] .full]
structure Ln where
  x : Bool → Sq
  bag : List Wy
  sent : Bool → List Int
  came : Bool → List Int
structure Nt where
  d : Int
  w : Bool
  n : Int
  v : Int
abbrev ntz (n : Nt) : List D := [vi n.d, vb n.w, .val (.int .u16 n.n), .val (.int .u8 n.v)]
def Nt.Ok (n : Nt) : Prop := (0 ≤ n.n ∧ n.n ≤ 65535) ∧ (0 ≤ n.v ∧ n.v ≤ 255)
def Ln.takes (l : Ln) (w : Wy) : Ln :=
  { l with x := at2 l.x w.to ((l.x w.to).take w.p).1, came := if ((l.x w.to).take w.p).2.2 = true then at2 l.came (!w.to) (l.came (!w.to) ++ ((l.x w.to).take w.p).2.1) else l.came }
def Nt.i (n : Nt) (l : Ln) : Nat := n.n.toNat % l.bag.length
def Ln.does (l : Ln) (n : Nt) : Ln :=
  if n.d = 0 then
    if (l.x n.w).q.length < 16 then { l with x := at2 l.x n.w ((l.x n.w).send [n.v]), sent := at2 l.sent n.w (l.sent n.w ++ [n.v]), bag := l.bag ++ [⟨!n.w, (l.x n.w).pk ((l.x n.w).s + 1) [n.v]⟩] } else l
  else if n.d = 1 then { l with bag := l.bag ++ (l.x n.w).again.map fun p => ⟨!n.w, p⟩ }
  else if n.d = 2 then { l with bag := l.bag ++ [⟨!n.w, (l.x n.w).pk 0 []⟩] }
  else if n.d = 3 then match l.bag[n.i l]? with | some w => l.takes w | none => l
  else { l with bag := l.bag.eraseIdx (n.i l) }
structure Gd (l : Ln) : Prop where
  ok : ∀ c, (l.x c).Ok
  lt : ∀ c, (l.x c).s < 9007199254740992
  pk : ∀ w ∈ l.bag, w.p.chk = 0
  bl : l.bag.length ≤ 100000
  sn : ∀ c, (l.sent c).length ≤ 100000
  cm : ∀ c, (l.came c).length ≤ 1000000000
def Ln.rl (l : Ln) : Nat → Nat × Nat
  | 0 => (l.bag.length, 6)
  | 1 => ((l.sent false).length, 1)
  | 2 => ((l.sent true).length, 1)
  | 3 => ((l.came false).length, 1)
  | _ => ((l.came true).length, 1)
structure Rw (l : Ln) (r : Nat → Nat) (S : List Ob) : Prop where
  row : ∀ k, k < 5 → S[r k]? = some (.row (l.rl k).1 (l.rl k).2)
  inj : ∀ j k, j < 5 → k < 5 → r j = r k → j = k
theorem Rw.lt {l : Ln} {r : Nat → Nat} {S : List Ob} (h : Rw l r S) {k : Nat} (hk : k < 5) : r k < S.length := (List.getElem?_eq_some_iff.1 (h.row k hk)).1
theorem Rw.app {l : Ln} {r : Nat → Nat} {S T : List Ob} (h : Rw l r S) : Rw l r (S ++ T) := ⟨fun k hk => by rw [List.getElem?_append_left (h.lt hk)]; exact h.row k hk, h.inj⟩
theorem Rw.at {l : Ln} {r : Nat → Nat} {S T : List Ob} (h : Rw l r S) {k : Nat} (hk : k < 5) : (S ++ T)[r k]? = some (.row (l.rl k).1 (l.rl k).2) := h.app.row k hk
theorem Rw.same {l l' : Ln} {r : Nat → Nat} {S : List Ob} (h : Rw l r S) (ho : ∀ j, j < 5 → l'.rl j = l.rl j) : Rw l' r S := ⟨fun k hk => by rw [ho k hk]; exact h.row k hk, h.inj⟩
theorem Rw.set {l l' : Ln} {r : Nat → Nat} {S : List Ob} (h : Rw l r S) {k : Nat} (hk : k < 5) {n s : Nat} (hn : l'.rl k = (n, s)) (ho : ∀ j, j < 5 → j ≠ k → l'.rl j = l.rl j) : Rw l' r (S.set (r k) (.row n s)) := by
  refine ⟨fun j hj => ?_, h.inj⟩
  by_cases e : j = k
  · subst e; rw [List.getElem?_set_self (h.lt hj), hn]
  · rw [List.getElem?_set_ne (fun q => e (h.inj j k hj hk q.symm)), ho j hj e]; exact h.row j hj
theorem Rw.new {l l' : Ln} {r : Nat → Nat} {S T : List Ob} {n : Nat} (h : Rw l r S) {i : Nat} (hi : S.length ≤ i) (hr : (S ++ T)[i]? = some (.row n 6)) (hn : l'.rl 0 = (n, 6)) (ho : ∀ j, j < 5 → j ≠ 0 → l'.rl j = l.rl j) : Rw l' (fun k => if k = 0 then i else r k) (S ++ T) := by
  refine ⟨fun j hj => ?_, fun j k hj hk e => ?_⟩
  · by_cases q : j = 0
    · subst q; rw [if_pos rfl, hn]; exact hr
    · rw [if_neg q, ho j hj q]; exact h.at hj
  · have h1 := h.lt hj
    have h2 := h.lt hk
    (try dsimp only at e)
    split at e <;> split at e
    · omega
    · omega
    · omega
    · exact h.inj j k hj hk e
abbrev lbx (l : Ln) (r : Nat → Nat) : List D :=
  [vi (l.x false).b, vi (l.x false).p, vi (l.x false).s, vi (l.x false).a, vi (l.x false).e, .sl none ((l.x false).q.map qe) .ro, vi (l.x true).b, vi (l.x true).p, vi (l.x true).s, vi (l.x true).a, vi (l.x true).e, .sl none ((l.x true).q.map qe) .ro,
    .sl none (l.bag.map wyz) (.own (r 0 + 1)), .sl none (ints .u8 (l.sent false)) (.own (r 1 + 1)), .sl none (ints .u8 (l.sent true)) (.own (r 2 + 1)), .sl none (ints .u8 (l.came false)) (.own (r 3 + 1)), .sl none (ints .u8 (l.came true)) (.own (r 4 + 1))]
theorem Sq.take_len {x : Sq} {y : Pq} : (x.take y).2.1.length ≤ y.l.length := by
  unfold Sq.take
  split
  · exact Nat.zero_le _
  · split
    · exact Nat.zero_le _
    · split
      · exact Nat.zero_le _
      · exact Nat.le_refl _
theorem wyz_one (w : Wy) : ∀ d ∈ wyz w, d.one = true := fun d hd => by
  simp only [wyz, List.mem_cons, List.not_mem_nil, or_false] at hd
  rcases hd with rfl | rfl | rfl | rfl | rfl | rfl <;> rfl
def fw (ws : List Wy) : List D := (ws.map wyz).flatten
theorem fw_len (ws : List Wy) : (fw ws).length = ws.length * 6 := by unfold fw; rw [flat_len (sz := 6) (map_one (f := wyz) (fun _ => rfl)), List.length_map]
theorem fw_one (ws : List Wy) : ∀ d ∈ fw ws, d.one = true := fun d hd => by
  obtain ⟨y, hy, hd⟩ := List.mem_flatten.1 hd
  obtain ⟨w, _, rfl⟩ := List.mem_map.1 hy
  exact wyz_one w d hd
theorem fw_split {ws : List Wy} {i : Nat} {w : Wy} (h : ws[i]? = some w) : fw ws = fw (ws.take i) ++ wyz w ++ fw (ws.drop (i + 1)) ∧ fw (ws.eraseIdx i) = fw (ws.take i) ++ fw (ws.drop (i + 1)) := by
  obtain ⟨hi, rfl⟩ := List.getElem?_eq_some_iff.1 h
  constructor
  · have : ws = ws.take i ++ ws[i] :: ws.drop (i + 1) := by rw [← List.drop_eq_getElem_cons hi, List.take_append_drop]
    have e2 : fw ws = fw (ws.take i ++ ws[i] :: ws.drop (i + 1)) := congrArg fw this
    rw [e2]
    unfold fw
    rw [List.map_append, List.map_cons, List.flatten_append, List.flatten_cons, List.append_assoc]
  · rw [List.eraseIdx_eq_take_drop_succ]
    unfold fw
    simp
end Go.Abs
