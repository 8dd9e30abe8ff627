/- Joins; small facts. -/
import Derived.Test.YtanfmpkjcoolmaaAbsL
set_option linter.unusedVariables false
set_option linter.unusedSimpArgs false
namespace Go.Abs
variable {P : Program} {N : Nat} {Q : Exit → Tm → List Ob → Prop} {tm : Tm} {S : List Ob}

/-- Ways meet: behind x the frame is F p, the objects O p. -/
theorem AWP.join {α : Type} (I : α → Prop) (F : α → Tm) (O : α → List Ob) {x y : Code} (hx : AWP P N x (Then (fun tm' S' => ∃ p, I p ∧ FLe tm' (F p) ∧ S' = O p) Q) tm S)
    (hy : ∀ p, I p → AWP P N y Q (F p) (O p)) : AWP P N (.seq x y) Q tm S := by
  refine AWP.seq (AWP.mono ?_ hx)
  intro e tm' S' q
  cases e with
  | normal => obtain ⟨p, h1, h2, rfl⟩ := q; exact (hy p h1).forget h2
  | exit id => exact q
  | goto k => exact q
  | ret => exact q
  | panic ch => exact q
  | outgrown => exact q

/-- The least and the greatest number of a kind. -/
def loK : IntKind → Int
  | .i8 => -128 | .i16 => -32768 | .i32 => -2147483648 | .i64 => -9223372036854775808 | _ => 0
def hiK : IntKind → Int
  | .i8 => 127 | .i16 => 32767 | .i32 => 2147483647 | .i64 => 9223372036854775807
  | .u8 => 255 | .u16 => 65535 | .u32 => 4294967295 | .u64 => 18446744073709551615
theorem wrap_id {k : IntKind} {a : Int} (h0 : loK k ≤ a) (h1 : a ≤ hiK k) : k.wrap a = a := by
  cases k <;> simp only [loK, hiK] at h0 h1
  · show (if (true && decide (a % 256 ≥ 128)) = true then a % 256 - 256 else a % 256) = a
    by_cases c : a % 256 ≥ 128
    · rw [if_pos (by simp [c])]; omega
    · rw [if_neg (by simp; omega)]; omega
  · show (if (true && decide (a % 65536 ≥ 32768)) = true then a % 65536 - 65536 else a % 65536) = a
    by_cases c : a % 65536 ≥ 32768
    · rw [if_pos (by simp [c])]; omega
    · rw [if_neg (by simp; omega)]; omega
  · show (if (true && decide (a % 4294967296 ≥ 2147483648)) = true then a % 4294967296 - 4294967296 else a % 4294967296) = a
    by_cases c : a % 4294967296 ≥ 2147483648
    · rw [if_pos (by simp [c])]; omega
    · rw [if_neg (by simp; omega)]; omega
  · show (if (true && decide (a % 18446744073709551616 ≥ 9223372036854775808)) = true then a % 18446744073709551616 - 18446744073709551616 else a % 18446744073709551616) = a
    by_cases c : a % 18446744073709551616 ≥ 9223372036854775808
    · rw [if_pos (by simp [c])]; omega
    · rw [if_neg (by simp; omega)]; omega
  · show (if (false && decide (a % 256 ≥ 128)) = true then a % 256 - 256 else a % 256) = a
    rw [if_neg (by simp)]; omega
  · show (if (false && decide (a % 65536 ≥ 32768)) = true then a % 65536 - 65536 else a % 65536) = a
    rw [if_neg (by simp)]; omega
  · show (if (false && decide (a % 4294967296 ≥ 2147483648)) = true then a % 4294967296 - 4294967296 else a % 4294967296) = a
    rw [if_neg (by simp)]; omega
  · show (if (false && decide (a % 18446744073709551616 ≥ 9223372036854775808)) = true then a % 18446744073709551616 - 18446744073709551616 else a % 18446744073709551616) = a
    rw [if_neg (by simp)]; omega

theorem shr7 (u : Nat) : Int.fdiv (u : Int) (2 ^ min (Int.toNat 7) IntKind.u64.bits) = ((u / 128 : Nat) : Int) := by
  have : (2 : Int) ^ min (Int.toNat 7) IntKind.u64.bits = 128 := by decide
  rw [this, Int.fdiv_eq_ediv_of_nonneg _ (by decide)]
  omega
theorem EI.of {e : TypeId} {sz bytes : Nat} {z : Value} (h : (P.info? e).map (fun i => (i.zero, i.size, i.bytes)) = some (some z, sz, bytes)) (hz : z.cells.size = sz) (hb : Nat.blt 0 bytes = true) : EI P e sz bytes z := by
  obtain ⟨i, hi, h⟩ := Option.map_eq_some_iff.1 h
  simp only [Prod.mk.injEq] at h
  exact ⟨⟨i, hi, h.2.1, h.2.2, h.1⟩, hz, hb⟩

/-- A slice whose capacity is its length becomes a row of the call's own. -/
theorem AWP.adopt {t : Nat} {nl : Option Bool} {xs : List (List D)} {c : Code} {n m sz : Nat} {S' : List Ob} (hx : tm t = .sl nl xs .full) (hn : S.length = n) (hm : xs.length = m) (hS : S ++ [.row m sz] = S') (h : AWP P N c Q (put tm t (.sl none xs (.own n))) S') : AWP P N c Q tm S := by
  subst hn hm hS
  intro ro hro g a w st
  have r := st.slots t
  rw [hx] at r
  generalize hv : a.tmps.getD t undef = v at r
  cases r with
  | sl s f h1 h2 h3 h4 h5 h6 h7 h8 =>
    rename_i ao n cap
    subst h1
    obtain ⟨k1, k2⟩ := same_sim (sz := sz) (ao := ao) st.sim h8 h3
    have st' := st.later k2 k1
    have r' : Rep { g with row := upd g.row S.length (some (xs.length, .slice ao xs.length cap)) } w (.slice ao xs.length cap) (.sl none xs (.own S.length)) :=
      .sl s f rfl h2 h3 (fun b h => by cases h) h5 (fun i x hx j d hd => let ⟨ad, e, k⟩ := h6 i x hx j d hd; ⟨ad, e, k2.1.cell _ _ k⟩) (fun i x hx j d hd => (h7 i x hx j d hd).mono k2.1) ⟨xs.length, _, by simp only [upd_same], Nat.le_refl _, fun _ => rfl⟩
    have st2 : St N { g with row := upd g.row S.length (some (xs.length, .slice ao xs.length cap)) } (put tm t (.sl none xs (.own S.length))) (S ++ [.row xs.length sz]) a w := by
      refine ⟨st'.size, st'.based, st'.once, st'.defers, fun i => ?_, st'.sim⟩
      by_cases e : i = t
      · subst e; rw [put_same, hv]; exact r'
      · rw [put_other _ _ e]; exact st'.slots i
    exact Code.wpIn_mono (fun e a' w' k => Post.later k2 k) (h ro hro _ a w st2)
theorem _root_.Go.Abs.Rep.ro_ {g : G} {w : World} {v : Value} {nl : Option Bool} {xs : List (List D)} {c : Cap} (r : Rep g w v (.sl nl xs c)) (h : ∀ x ∈ xs, x.length = x.length) : Rep g w v (.sl none xs .ro) := by
  cases r with
  | sl st f h1 h2 h3 h4 h5 h6 h7 h8 => exact .sl st f h1 h2 h3 (fun b e => by cases e) h5 h6 h7 trivial
theorem ofV_nil : ofV (.slice none 0 0) = .sl (some true) [] .full := rfl
theorem ofV_int (k : IntKind) (n : Int) : ofV (.int k n) = .val (.int k n) := rfl
theorem ofV_bool (b : Bool) : ofV (.bool b) = .val (.bool b) := rfl
theorem ofV_ptr (p : Option Addr) : ofV (.pointer p) = .val (.pointer p) := rfl
theorem ofV_agg (p : Array Value) : ofV (.agg p) = .val (.agg p) := rfl
theorem ofV_string (p : ByteArray) : ofV (.string p) = .val (.string p) := rfl
theorem ofV_nilFunc : ofV .nilFunc = .val .nilFunc := rfl
theorem ofV_map (p : Option Nat) : ofV (.map p) = .val (.map p) := rfl
theorem ints_at (k : IntKind) (xs : List Int) (i : Nat) (h : i < xs.length) : (ints k xs)[(i : Int).toNat]? = some [.val (.int k (xs.getD i 0))] := by
  rw [show (i : Int).toNat = i by omega]; exact ints_get k xs i h
end Go.Abs
