/- A call of the library's comparison of bytes. -/
import Derived.Test.YtanfmpkjcoolmaaAbsZc
import Derived.Test.YtanfmpkjcoolmaaPackPlain4
import Derived.Lib.BytesEntry
import Derived.Laws.Externs
import Derived.Lib.Bytealg
set_option linter.unusedVariables false
set_option linter.unusedSimpArgs false
namespace Go.Abs
variable {P : Program} {N : Nat} {ops : Array Oper} {l : List Oper} {Q : Exit → Tm → List Ob → Prop} {tm : Tm} {S : List Ob}
theorem run_bytesOf_rep {g : G} {w : World} {v : Value} {nl : Option Bool} {xs : List Int} {c : Cap} (r : Rep g w v (.sl nl (ints .u8 xs) c)) : (Extern.Bytes.bytesOf v).run P w = .ok ⟨(Lib.bytesOf xs).toArray⟩ w := by
  cases r with
  | sl st' f hn hcap hnone hnl hst hcell hrep hc =>
    rename_i ao n cap
    rw [ints_length] at hn
    cases ao with
    | none =>
      have h0 := hnone rfl
      have : xs = [] := List.eq_nil_of_length_eq_zero (by omega)
      subst this
      rfl
    | some ad =>
      have := Lib.run_loadBytesX (P := P) (w := w) xs ad .empty (fun j x hj => by
        have hg : (ints .u8 xs)[j]? = some [.val (.int .u8 x)] := by rw [ints, List.getElem?_map, hj]; rfl
        obtain ⟨ad', e1, k1⟩ := hcell j _ hg 0 (.val (.int .u8 x)) rfl
        have e2 := (hrep j _ hg 0 (.val (.int .u8 x)) rfl).val_inv
        have e3 := hst _ (List.mem_of_getElem? hg)
        cases e1
        rw [← e3, List.length_singleton, Nat.mul_one, Nat.add_zero, e2] at k1
        exact k1.1)
      show (Extern.Bytes.loadBytes ad n .empty).run P w = _
      rw [← hn, this]
      simp [ByteArray.empty, ByteArray.emptyWithCapacity]
      try rfl
def cmpI : List Int → List Int → Int
  | [], [] => 0
  | [], _ :: _ => -1
  | _ :: _, [] => 1
  | a :: as, b :: bs => if a < b then -1 else if b < a then 1 else cmpI as bs
theorem cmpI_eq : ∀ (xs ys : List Int), Byt xs → Byt ys → Lib.compareBytes (Lib.bytesOf xs) (Lib.bytesOf ys) = cmpI xs ys
  | [], [], _, _ => rfl
  | [], _ :: _, _, _ => rfl
  | _ :: _, [], _, _ => rfl
  | x :: xs, y :: ys, hx, hy => by
    have ih := cmpI_eq xs ys (fun n hn => hx n (by simp [hn])) (fun n hn => hy n (by simp [hn]))
    have h1 := hx x (by simp); have h2 := hy y (by simp)
    have e : ∀ {x y : Int}, 0 ≤ x ∧ x ≤ 255 → 0 ≤ y ∧ y ≤ 255 → (x.toNat.toUInt8 < y.toNat.toUInt8 ↔ x < y) := by
      intro x y h1 h2
      rw [UInt8.lt_iff_toNat_lt]
      simp only [Nat.toUInt8, UInt8.toNat_ofNat']
      omega
    show (if x.toNat.toUInt8 < y.toNat.toUInt8 then (-1 : Int) else if y.toNat.toUInt8 < x.toNat.toUInt8 then 1 else Lib.compareBytes (Lib.bytesOf xs) (Lib.bytesOf ys)) = _
    rw [ih, show cmpI (x :: xs) (y :: ys) = (if x < y then -1 else if y < x then 1 else cmpI xs ys) from rfl]
    simp only [e h1 h2, e h2 h1]
section
variable {t : Tmp} {ty : TypeId} {pos : String} {after : Array Edge}
theorem n_compare {fo x y : Operand} {ts : Array TypeId} {f : FuncId} {fn : Func} {nl nl' : Option Bool} {c c' : Cap} {xs ys : List Int} {n : Int} (hd : Nat.blt t N = true) (hf : ev tm fo = .fn (.func f) [] []) (hfn : P.funcs[f]? = some fn) (hname : (fn.name == "runtime.NumGoroutine") = false) (hb : fn.body.isNone = true) (hn : Extern.findNext fn = none) (he : Extern.find fn = some Extern.BytealgCompare.compare)
    (hx : ev tm x = .sl nl (ints .u8 xs) c) (hy : ev tm y = .sl nl' (ints .u8 ys) c') (hbx : Byt xs) (hby : Byt ys) (hc : cmpI xs ys = n) (rest : AOps P N ops l Q (put tm t (.val (.int .i64 n))) S) :
    AOps P N ops (⟨some t, .call ⟨.value fo, #[x, y], ts⟩, ty, pos, after, none⟩ :: l) Q tm S :=
  AOps.still (o := ⟨some t, .call ⟨.value fo, #[x, y], ts⟩, ty, pos, after, none⟩) (d := .val (.int .i64 n)) rfl hd (fun g a w st => by
    have rf := st.ev fo
    rw [hf] at rf
    have rx := st.ev x
    rw [hx] at rx
    have ry := st.ev y
    rw [hy] at ry
    generalize hvf : a.eval fo = vf at rf
    cases rf with
    | fn hs hs' hrep hrep' =>
      rename_i vfi vca
      have e1 : vfi = #[] := Array.eq_empty_of_size_eq_zero (by simpa using hs)
      have e2 : vca = #[] := Array.eq_empty_of_size_eq_zero (by simpa using hs')
      subst e1 e2
      refine ⟨.int .i64 n, ?_, .val _⟩
      have h1 := run_bytesOf_rep (P := P) rx
      have h2 := run_bytesOf_rep (P := P) ry
      have h3 : (Extern.BytealgCompare.compare #[a.eval x, a.eval y]).run P w = .ok (.int .i64 n) w := by
        change Sem.run P (do pure (goInt (Extern.BytealgCompare.cmp (← Extern.Bytes.bytesOf (a.eval x)) (← Extern.Bytes.bytesOf (a.eval y))))) w = _
        simp only [Sem.run_bind, h1, h2, Sem.run_pure, Result.andThen]
        rw [Lib.cmp_eq]
        rw [← hc, ← cmpI_eq xs ys hbx hby]
        rfl
      have h4 := run_callFunc_extern hfn hname hb hn he #[a.eval x, a.eval y] w
      rw [h3] at h4
      simp [execOp, resolve, hvf, Deferred.ofValue, invoke, h4, Result.andThen]) rest
end
/-! ### Forms rise -/
def sgn (u v : Nat) : Int := if u < v then -1 else if v < u then 1 else 0
theorem cmpI_app : ∀ (p q : List Int) (x y : Int), p.length = q.length → cmpI (p ++ [x]) (q ++ [y]) = if cmpI p q ≠ 0 then cmpI p q else (if x < y then -1 else if y < x then 1 else 0)
  | [], [], x, y, _ => by simp [cmpI]
  | [], _ :: _, x, y, h => by simp at h
  | _ :: _, [], x, y, h => by simp at h
  | a :: p, b :: q, x, y, h => by
    have ih := cmpI_app p q x y (by simpa using h)
    simp only [List.cons_append, cmpI]
    split
    · simp
    · split
      · simp
      · exact ih
theorem sgn_div (u v : Nat) (x y : Int) (hx : (x < y ↔ u % 128 < v % 128) ∧ (y < x ↔ v % 128 < u % 128)) : (if sgn (u / 128) (v / 128) ≠ 0 then sgn (u / 128) (v / 128) else (if x < y then -1 else if y < x then 1 else 0)) = sgn u v := by
  unfold sgn
  simp only [hx.1, hx.2]
  split <;> (repeat' split) <;> (first | rfl | omega | (simp at *; omega))
theorem cmpI_hiD : ∀ (u v : Nat), (hiD u).length = (hiD v).length → cmpI (hiD u) (hiD v) = sgn u v := by
  intro u
  induction u using Nat.strongRecOn with
  | _ u ih =>
    intro v h
    by_cases hu : u = 0
    · subst hu
      by_cases hv : v = 0
      · subst hv; rw [hiD_zero]; rfl
      · rw [hiD_zero, hiD_pos hv] at h; simp at h
    · by_cases hv : v = 0
      · subst hv; rw [hiD_zero, hiD_pos hu] at h; simp at h
      · rw [hiD_pos hu, hiD_pos hv] at h ⊢
        have hl : (hiD (u / 128)).length = (hiD (v / 128)).length := by simpa using h
        rw [cmpI_app _ _ _ _ hl, ih (u / 128) (by omega) _ hl]
        exact sgn_div u v _ _ ⟨by omega, by omega⟩
theorem cmpI_form {a b : Int} (ha : 0 ≤ a) (hb : 0 ≤ b) (h : sizeN (natN a) = sizeN (natN b)) : cmpI (form a) (form b) = if a < b then -1 else if b < a then 1 else 0 := by
  have hl : (hiD (natN a / 128)).length = (hiD (natN b / 128)).length := by
    have h1 := hiD_length (natN a); have h2 := hiD_length (natN b); omega
  unfold form formN
  rw [cmpI_app _ _ _ _ hl, cmpI_hiD _ _ hl, sgn_div (natN a) (natN b) _ _ ⟨by omega, by omega⟩]
  unfold sgn natN
  rw [if_pos ha, if_pos hb]
  repeat' split
  all_goals first | rfl | omega
theorem form_inj {a b : Int} (ha : -9223372036854775808 ≤ a ∧ a ≤ 9223372036854775807) (hb : -9223372036854775808 ≤ b ∧ b ≤ 9223372036854775807) : (form a = form b) ↔ a = b := by
  constructor
  · intro h
    have h1 := firstP_form ha.1 ha.2 []
    rw [h, firstP_form hb.1 hb.2 []] at h1
    simp at h1
    exact h1.symm
  · rintro rfl; rfl
end Go.Abs
