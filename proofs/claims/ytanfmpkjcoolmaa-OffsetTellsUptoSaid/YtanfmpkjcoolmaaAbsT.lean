/- What is computed of frames, in one fact: the walks name it in the place of its parts. -/
import Derived.Test.YtanfmpkjcoolmaaAbsS
set_option linter.unusedVariables false
namespace Go.Abs
theorem nf :
    (∀ (tm : Tm) (t : Nat), ev tm (.tmp t) = tm t) ∧ (∀ (tm : Tm) (v : Value), ev tm (.const v) = ofV v) ∧ (∀ (tm : Tm) (f : FuncId), ev tm (.func f) = .fn (.func f) [] []) ∧
    (∀ (tm : Tm) (i : Nat) (d : D) (j : Nat), put tm i d j = cond (Nat.beq j i) d (tm j)) ∧ (∀ (tm : Tm) (i : Nat) (d : D), putO tm (some i) d = put tm i d) ∧ (∀ (tm : Tm) (d : D), putO tm none d = tm) ∧
    (∀ {α : Type} (a b : α), cond true a b = a) ∧ (∀ {α : Type} (a b : α), cond false a b = b) ∧
    (ofV (.slice none 0 0) = .sl (some true) [] .full) ∧ (∀ (k : IntKind) (n : Int), ofV (.int k n) = .val (.int k n)) ∧ (∀ b : Bool, ofV (.bool b) = .val (.bool b)) ∧ (∀ p : Option Addr, ofV (.pointer p) = .val (.pointer p)) ∧
    (∀ p : Array Value, ofV (.agg p) = .val (.agg p)) ∧ (∀ p : ByteArray, ofV (.string p) = .val (.string p)) ∧ (ofV .nilFunc = .val .nilFunc) ∧ (∀ p : Option Nat, ofV (.map p) = .val (.map p)) ∧
    (∀ (ds : List D) (i : Nat), frameOf ds i = ds.getD i .any) ∧ (∀ (sz : Nat) (cs : List D), D.ofCells true sz cs = .agg (cs.take sz)) ∧ (∀ (sz : Nat) (cs : List D), D.ofCells false sz cs = cs.headD .any) ∧
    (∀ cs : List D, D.cells (.agg cs) = cs) ∧ (∀ cs : Array Value, D.cells (.val (.agg cs)) = cs.toList.map ofV) ∧ (∀ (k : IntKind) (n : Int), D.cells (.val (.int k n)) = [.val (.int k n)]) ∧ (∀ b : Bool, D.cells (.val (.bool b)) = [.val (.bool b)]) ∧
    (∀ p : ByteArray, D.cells (.val (.string p)) = [.val (.string p)]) ∧ (∀ (p : Option Addr), D.cells (.val (.pointer p)) = [.val (.pointer p)]) ∧ (∀ (p : Option Nat), D.cells (.val (.map p)) = [.val (.map p)]) ∧ (D.cells (.val .nilFunc) = [.val .nilFunc]) ∧
    (∀ (nl : Option Bool) (xs : List (List D)) (c : Cap), D.cells (.sl nl xs c) = [.sl nl xs c]) ∧ (∀ l o : Nat, D.cells (.bp l o) = [.bp l o]) ∧ (∀ l o n : Nat, D.cells (.bs l o n) = [.bs l o n]) ∧ (∀ cs : List D, D.cells (.rp cs) = [.rp cs]) ∧ (∀ (f : Fn) (a b : List D), D.cells (.fn f a b) = [.fn f a b]) ∧ (D.cells .any = [.any]) ∧
    (∀ (S : List Ob) (l off : Nat), D.at S (.bp l off) = (match S[l]? with | some (.box ds) => some (ds.drop off) | _ => none)) ∧ (∀ (S : List Ob) (cs : List D), D.at S (.rp cs) = some cs) ∧
    (∀ (r : Nat) (rs : List Nat) (e : D) (es : List D) (base : Tm), putAll (r :: rs) (e :: es) base = put (putAll rs es base) r e) ∧ (∀ base : Tm, putAll [] [] base = base) ∧
    (∀ k l o : Nat, D.shift k (.bp l o) = .bp l (o + k)) ∧ (∀ (k : Nat) (cs : List D), D.shift k (.rp cs) = .rp (cs.drop k)) ∧
    (∀ (ds : List D) (off : Nat) (cs : List D), splice ds off cs = ds.take off ++ cs ++ ds.drop (off + cs.length)) ∧ (∀ d : D, resD [d] = d) ∧ (∀ (d e : D) (ds : List D), resD (d :: e :: ds) = .tup (d :: e :: ds)) ∧ (resD [] = .tup []) ∧
    (∀ b : Bool, (b && true) = b) ∧ (∀ b : Bool, (true && b) = b) ∧ (∀ b : Bool, (b && false) = false) ∧ (∀ b : Bool, (false && b) = false) ∧ ((!true) = false) ∧ ((!false) = true) ∧
    (∀ {α : Type} (a : α) (l : List α) (d : α), (a :: l).getD 0 d = a) ∧ (∀ {α : Type} (a : α) (l : List α) (d : α) (n : Nat), (a :: l).getD (n + 1) d = l.getD n d) ∧ (∀ {α : Type} (d : α) (n : Nat), ([] : List α).getD n d = d) ∧
    (∀ {α : Type} (a : α) (l : List α), (a :: l)[0]? = some a) ∧ (∀ {α : Type} (a : α) (l : List α) (n : Nat), (a :: l)[n + 1]? = l[n]?) ∧
    (∀ {α : Type} (a : α) (l : List α) (n : Nat), (a :: l).drop (n + 1) = l.drop n) ∧ (∀ {α : Type} (l : List α), l.drop 0 = l) ∧ (∀ {α : Type} (n : Nat), ([] : List α).drop n = []) ∧
    (∀ {α : Type} (a : α) (l : List α) (n : Nat), (a :: l).take (n + 1) = a :: l.take n) ∧ (∀ {α : Type} (l : List α), l.take 0 = []) ∧ (∀ {α : Type} (n : Nat), ([] : List α).take n = []) ∧ (∀ {α : Type} (a : α) (l : List α) (d : α), (a :: l).headD d = a) ∧
    (∀ {α : Type} (a b : α) (l : List α), (a :: l).set 0 b = b :: l) ∧ (∀ {α : Type} (a b : α) (l : List α) (n : Nat), (a :: l).set (n + 1) b = a :: l.set n b) ∧
    (∀ {α : Type} (a : α) (l m : List α), a :: l ++ m = a :: (l ++ m)) ∧ (∀ {α : Type} (l : List α), [] ++ l = l) ∧ (∀ {α : Type} (l : List α), l ++ [] = l) ∧ (∀ {α β : Type} (f : α → β) (a : α) (l : List α), (a :: l).map f = f a :: l.map f) ∧ (∀ {α β : Type} (f : α → β), ([] : List α).map f = []) ∧
    (∀ {α : Type} (a : α) (l : List α), (a :: l).length = l.length + 1) ∧ (∀ {α : Type}, ([] : List α).length = 0) ∧ (∀ n : Nat, 0 + n = n) ∧ (∀ n : Nat, n + 0 = n) ∧ (∀ {α : Type} (l : List α), l.toArray.toList = l) ∧
    (∀ {α : Type} (p : α → Bool) (a : α) (l : List α), (a :: l).all p = (p a && l.all p)) ∧ (∀ {α : Type} (p : α → Bool), ([] : List α).all p = true) ∧ (∀ xs : Array Value, Value.cells (.agg xs) = xs) := by
  (repeat' apply And.intro) <;> intros <;> first | rfl | simp
/-- Lists of operands, first. -/
theorem nl : (∀ xs : Array Value, Value.cells (.agg xs) = xs) ∧ (∀ {α : Type} (l : List α), l.toArray.toList = l) ∧ (∀ {α β : Type} (f : α → β) (a : α) (l : List α), (a :: l).map f = f a :: l.map f) ∧ (∀ {α β : Type} (f : α → β), ([] : List α).map f = []) ∧
    (∀ {α : Type} (a : α) (l m : List α), a :: l ++ m = a :: (l ++ m)) ∧ (∀ {α : Type} (l : List α), [] ++ l = l) ∧ (∀ {α : Type} (l : List α), l ++ [] = l) := by
  (repeat' apply And.intro) <;> intros <;> first | rfl | simp
/-- Conditions, as propositions. -/
theorem nh : (∀ (p : Prop) [Decidable p], (decide p = true) = p) ∧ (∀ (p : Prop) [Decidable p], (decide p = false) = ¬ p) ∧ (∀ a b : Int, ((a == b) = true) = (a = b)) ∧ (∀ a b : Int, ((a == b) = false) = ¬ a = b) ∧ (∀ a b : Int, ((a != b) = true) = ¬ a = b) ∧ (∀ a b : Int, ((a != b) = false) = (a = b)) ∧
    (∀ b : Bool, ((!b) = true) = (b = false)) ∧ (∀ b : Bool, ((!b) = false) = (b = true)) ∧ (∀ a b : Bool, ((a && b) = true) = (a = true ∧ b = true)) ∧ (∀ a b : Bool, ((a || b) = false) = (a = false ∧ b = false)) := by
  (repeat' apply And.intro) <;> intros <;> simp
end Go.Abs
