/- Equality of structs of plain fields; least and greatest of two. -/
import Derived.Test.YtanfmpkjcoolmaaAbsO
import Derived.Laws.StructEq
set_option linter.unusedVariables false
set_option linter.unusedSimpArgs false
namespace Go.Abs
variable {P : Program} {N : Nat} {ops : Array Oper} {l : List Oper} {Q : Exit → Tm → List Ob → Prop} {tm : Tm} {S : List Ob}

inductive EqL (P : Program) : Nat → Array Value → Array Value → List Field → Bool → Prop
  | nil {n : Nat} {xs ys : Array Value} : EqL P n xs ys [] true
  | int {n : Nat} {xs ys : Array Value} {f : Field} {fs : List Field} {a b : Int} {r : Bool} {k k1 : IntKind} (hn : (f.name == "_") = false) (ti : TI P f.type 1 false) (hu : P.underlying f.type = some (.int k)) (hx : xs[f.offset]? = some (.int k1 a)) (hy : ys[f.offset]? = some (.int k1 b))
      (h : EqL P n xs ys fs r) : EqL P n xs ys (f :: fs) ((a == b) && r)
  | bool {n : Nat} {xs ys : Array Value} {f : Field} {fs : List Field} {a b : Bool} {r : Bool} (hn : (f.name == "_") = false) (ti : TI P f.type 1 false) (hu : P.underlying f.type = some .bool) (hx : xs[f.offset]? = some (.bool a)) (hy : ys[f.offset]? = some (.bool b))
      (h : EqL P n xs ys fs r) : EqL P n xs ys (f :: fs) ((a == b) && r)
  | struct {n sz : Nat} {xs ys us vs : Array Value} {f : Field} {fs : List Field} {gs : Array Field} {r1 r : Bool} (hn : (f.name == "_") = false) (ti : TI P f.type sz true) (hu : P.underlying f.type = some (.struct gs)) (hp : P.stoodInHeld f.type = false)
      (hx : xs.extract f.offset (f.offset + sz) = us) (hy : ys.extract f.offset (f.offset + sz) = vs) (h1 : EqL P n us vs gs.toList r1) (h : EqL P (n + 1) xs ys fs r) : EqL P (n + 1) xs ys (f :: fs) (r1 && r)

theorem run_part_one {t : TypeId} (ti : TI P t 1 false) {xs : Array Value} {i : Nat} {v : Value} (h : xs[i]? = some v) (w : World) : (part t xs i).run P w = .ok v w := by
  unfold part
  simp only [Sem.run_bind, ti.isAgg, Result.andThen_ok]
  simp [h]
theorem run_part_agg {t : TypeId} {sz : Nat} (ti : TI P t sz true) {xs us : Array Value} {i : Nat} (h : xs.extract i (i + sz) = us) (w : World) : (part t xs i).run P w = .ok (.agg us) w := by
  unfold part
  simp only [Sem.run_bind, ti.isAgg, Result.andThen_ok]
  simp [ti.sizeOf, h]
theorem EqL.run {n : Nat} {xs ys : Array Value} {fs : List Field} {r : Bool} (h : EqL P n xs ys fs r) (w : World) : ∀ d : Nat, (Op.eqFields (d + n + 1) xs ys fs).run P w = .ok r w := by
  induction h with
  | nil => intro d; simp [Op.eqFields]
  | @int n xs ys f fs a b r k k1 hn ti hu hx hy _ ih =>
    intro d
    have hn' : f.name ≠ "_" := by simpa using hn
    rw [Op.eqFields]
    simp only [if_pos hn', Sem.run_bind, run_part_one ti hx, run_part_one ti hy, Result.andThen_ok, run_equalIn_int w (d + n) f.type k1 k a b hu]
    cases (a == b)
    · simp
    · simpa using ih d
  | @bool n xs ys f fs a b r hn ti hu hx hy _ ih =>
    intro d
    have hn' : f.name ≠ "_" := by simpa using hn
    rw [Op.eqFields]
    simp only [if_pos hn', Sem.run_bind, run_part_one ti hx, run_part_one ti hy, Result.andThen_ok, run_equalIn_bool' w (d + n) f.type a b hu]
    cases (a == b)
    · simp
    · simpa using ih d
  | @struct n sz xs ys us vs f fs gs r1 r hn ti hu hp hx hy _ _ ih1 ih =>
    intro d
    have hn' : f.name ≠ "_" := by simpa using hn
    have hf : P.fieldsOf f.type = gs := by simp [Program.fieldsOf, hu]
    have e1 : (Op.equalIn (d + (n + 1) + 1) f.type (.agg us) (.agg vs)).run P w = .ok r1 w := by
      rw [run_equalIn_struct (P := P) w _ f.type us vs (by rw [hf]; exact hu) hp, hf]
      exact ih1 d
    rw [Op.eqFields]
    simp only [if_pos hn', Sem.run_bind, run_part_agg ti hx, run_part_agg ti hy, Result.andThen_ok, e1]
    cases r1
    · simp
    · simpa using ih d

section
variable {t : Tmp} {ty : TypeId} {pos : String} {after : Array Edge}
theorem run_struct {xT : TypeId} {fs : Array Field} {xs ys : Array Value} {r : Bool} (hu : P.underlying xT = some (.struct fs)) (hp : P.stoodInHeld xT = false) (h : EqL P 4 xs ys fs.toList r) (w : World) :
    (Op.equalIn 10000 xT (.agg xs) (.agg ys)).run P w = .ok r w := by
  have hf : P.fieldsOf xT = fs := by simp [Program.fieldsOf, hu]
  rw [show (10000 : Nat) = 9994 + 4 + 1 + 1 from rfl, run_equalIn_struct (P := P) w _ xT xs ys (by rw [hf]; exact hu) hp, hf]
  exact h.run w _
theorem n_steq {xT yT : TypeId} {fs : Array Field} {x y : Operand} {dx dy : D} {xs ys : Array Value} {r b : Bool} (hd : Nat.blt t N = true) (hx : ev tm x = dx) (hy : ev tm y = dy) (hvx : dx.exact = some (.agg xs)) (hvy : dy.exact = some (.agg ys))
    (hu : P.underlying xT = some (.struct fs)) (hp : P.stoodInHeld xT = false) (hm : P.eqGuardType P.depth xT = false) (h : EqL P 4 xs ys fs.toList r) (hb : r = b)
    (rest : AOps P N ops l Q (put tm t (.val (.bool b))) S) : AOps P N ops (⟨some t, .binOp .eql xT x y yT, ty, pos, after, none⟩ :: l) Q tm S :=
  n_bin hd hx hy hvx hvy (fun w => by
    subst hb
    simp only [Sem.run_bind, run_eqGuard_agg w .eql xT x y xs ys hm, Result.andThen_ok, run_eql_struct, run_struct hu hp h w]) rest
theorem n_stne {xT yT : TypeId} {fs : Array Field} {x y : Operand} {dx dy : D} {xs ys : Array Value} {r b : Bool} (hd : Nat.blt t N = true) (hx : ev tm x = dx) (hy : ev tm y = dy) (hvx : dx.exact = some (.agg xs)) (hvy : dy.exact = some (.agg ys))
    (hu : P.underlying xT = some (.struct fs)) (hp : P.stoodInHeld xT = false) (hm : P.eqGuardType P.depth xT = false) (h : EqL P 4 xs ys fs.toList r) (hb : (!r) = b)
    (rest : AOps P N ops l Q (put tm t (.val (.bool b))) S) : AOps P N ops (⟨some t, .binOp .neq xT x y yT, ty, pos, after, none⟩ :: l) Q tm S :=
  n_bin hd hx hy hvx hvy (fun w => by
    subst hb
    simp only [Sem.run_bind, run_eqGuard_agg w .neq xT x y xs ys hm, Result.andThen_ok, run_neq_struct, run_struct hu hp h w]) rest
theorem run_bool {xT : TypeId} (hu : P.underlying xT = some .bool) (a b : Bool) (w : World) : (Op.equalIn 10000 xT (.bool a) (.bool b)).run P w = .ok (a == b) w := run_equalIn_bool w 9999 xT a b hu
theorem n_beql {xT yT : TypeId} {x y : Operand} {a b c : Bool} (hd : Nat.blt t N = true) (hx : ev tm x = .val (.bool a)) (hy : ev tm y = .val (.bool b)) (hu : P.underlying xT = some .bool) (hb : (a == b) = c)
    (rest : AOps P N ops l Q (put tm t (.val (.bool c))) S) : AOps P N ops (⟨some t, .binOp .eql xT x y yT, ty, pos, after, none⟩ :: l) Q tm S :=
  n_bin hd hx hy rfl rfl (fun w => by
    subst hb
    simp [eqGuard_at_bool, binOp, Op.equal, Op.maxDepth, run_bool hu]) rest
theorem n_bneq {xT yT : TypeId} {x y : Operand} {a b c : Bool} (hd : Nat.blt t N = true) (hx : ev tm x = .val (.bool a)) (hy : ev tm y = .val (.bool b)) (hu : P.underlying xT = some .bool) (hb : (a != b) = c)
    (rest : AOps P N ops l Q (put tm t (.val (.bool c))) S) : AOps P N ops (⟨some t, .binOp .neq xT x y yT, ty, pos, after, none⟩ :: l) Q tm S :=
  n_bin hd hx hy rfl rfl (fun w => by
    subst hb
    simp [eqGuard_at_bool, binOp, Op.equal, Op.maxDepth, run_bool hu, bne]) rest
theorem n_min {T1 T2 : Array TypeId} {x y : Operand} {k : IntKind} {a b c : Int} (hd : Nat.blt t N = true) (hx : ev tm x = .val (.int k a)) (hy : ev tm y = .val (.int k b)) (hc : (if b < a then b else a) = c)
    (rest : AOps P N ops l Q (put tm t (.val (.int k c))) S) : AOps P N ops (⟨some t, .call ⟨.builtin .min, #[x, y], T1⟩, ty, pos, after, none⟩ :: l) Q tm S :=
  AOps.still rfl hd (fun g ac w st => by
    have rx := st.ev x
    have ry := st.ev y
    rw [hx] at rx
    rw [hy] at ry
    generalize hvx : ac.eval x = v at rx
    generalize hvy : ac.eval y = v' at ry
    cases rx
    cases ry
    refine ⟨_, ?_, .val _⟩
    simp only [execOp, resolve]
    simp [invoke, builtin, hvx, hvy, run_min_int2, hc]) rest
theorem n_max {T1 T2 : Array TypeId} {x y : Operand} {k : IntKind} {a b c : Int} (hd : Nat.blt t N = true) (hx : ev tm x = .val (.int k a)) (hy : ev tm y = .val (.int k b)) (hc : (if a < b then b else a) = c)
    (rest : AOps P N ops l Q (put tm t (.val (.int k c))) S) : AOps P N ops (⟨some t, .call ⟨.builtin .max, #[x, y], T1⟩, ty, pos, after, none⟩ :: l) Q tm S :=
  AOps.still rfl hd (fun g ac w st => by
    have rx := st.ev x
    have ry := st.ev y
    rw [hx] at rx
    rw [hy] at ry
    generalize hvx : ac.eval x = v at rx
    generalize hvy : ac.eval y = v' at ry
    cases rx
    cases ry
    refine ⟨_, ?_, .val _⟩
    simp only [execOp, resolve]
    simp [invoke, builtin, hvx, hvy, Builtin.max_, Builtin.max2, hc]) rest
end
end Go.Abs
