/- Equality of structs of plain fields; least and greatest of two. -/
import Derived.Test.YtanfmpkjcoolmaaAbsO
import Derived.Laws.StructEq
set_option linter.unusedVariables false
set_option linter.unusedSimpArgs false
namespace Go.Abs
variable {P : Program} {N : Nat} {ops : Array Oper} {l : List Oper} {Q : Exit → Tm → List Ob → Prop} {tm : Tm} {S : List Ob}

inductive EqL (P : Program) (xs ys : Array Value) : List Field → Bool → Prop
  | nil : EqL P xs ys [] true
  | int {f : Field} {fs : List Field} {n m : Int} {r : Bool} {k k1 : IntKind} (hn : (f.name == "_") = false) (ti : TI P f.type 1 false) (hu : P.underlying f.type = some (.int k)) (hx : xs[f.offset]? = some (.int k1 n)) (hy : ys[f.offset]? = some (.int k1 m))
      (h : EqL P xs ys fs r) : EqL P xs ys (f :: fs) ((n == m) && r)
  | bool {f : Field} {fs : List Field} {n m : Bool} {r : Bool} (hn : (f.name == "_") = false) (ti : TI P f.type 1 false) (hu : P.underlying f.type = some .bool) (hx : xs[f.offset]? = some (.bool n)) (hy : ys[f.offset]? = some (.bool m))
      (h : EqL P xs ys fs r) : EqL P xs ys (f :: fs) ((n == m) && r)

theorem run_part_one {t : TypeId} (ti : TI P t 1 false) {xs : Array Value} {i : Nat} {v : Value} (h : xs[i]? = some v) (w : World) : (part t xs i).run P w = .ok v w := by
  unfold part
  simp only [Sem.run_bind, ti.isAgg, Result.andThen_ok]
  simp [h]
theorem EqL.run {xs ys : Array Value} {fs : List Field} {r : Bool} (h : EqL P xs ys fs r) (d : Nat) (w : World) : (Op.eqFields (d + 1) xs ys fs).run P w = .ok r w := by
  induction h with
  | nil => simp [Op.eqFields]
  | @int f fs n m r k k1 hn ti hu hx hy _ ih =>
    have hn' : f.name ≠ "_" := by simpa using hn
    rw [Op.eqFields]
    simp only [if_pos hn', Sem.run_bind, run_part_one ti hx, run_part_one ti hy, Result.andThen_ok, run_equalIn_int w d f.type k1 k n m hu]
    cases (n == m)
    · simp
    · simpa using ih
  | @bool f fs n m r hn ti hu hx hy _ ih =>
    have hn' : f.name ≠ "_" := by simpa using hn
    rw [Op.eqFields]
    simp only [if_pos hn', Sem.run_bind, run_part_one ti hx, run_part_one ti hy, Result.andThen_ok, run_equalIn_bool' w d f.type n m hu]
    cases (n == m)
    · simp
    · simpa using ih

section
variable {t : Tmp} {ty : TypeId} {pos : String} {after : Array Edge}
theorem run_struct {xT : TypeId} {fs : Array Field} {xs ys : Array Value} {r : Bool} (hu : P.underlying xT = some (.struct fs)) (hp : P.stoodInHeld xT = false) (h : EqL P xs ys fs.toList r) (w : World) :
    (Op.equalIn 10000 xT (.agg xs) (.agg ys)).run P w = .ok r w := by
  have hf : P.fieldsOf xT = fs := by simp [Program.fieldsOf, hu]
  rw [show (10000 : Nat) = 9998 + 1 + 1 from rfl, run_equalIn_struct (P := P) w _ xT xs ys (by rw [hf]; exact hu) hp, hf]
  exact h.run _ w
theorem n_steq {xT yT : TypeId} {fs : Array Field} {x y : Operand} {dx dy : D} {xs ys : Array Value} {r b : Bool} (hd : Nat.blt t N = true) (hx : ev tm x = dx) (hy : ev tm y = dy) (hvx : dx.exact = some (.agg xs)) (hvy : dy.exact = some (.agg ys))
    (hu : P.underlying xT = some (.struct fs)) (hp : P.stoodInHeld xT = false) (hm : P.eqGuardType P.depth xT = false) (h : EqL P xs ys fs.toList r) (hb : r = b)
    (rest : AOps P N ops l Q (put tm t (.val (.bool b))) S) : AOps P N ops (⟨some t, .binOp .eql xT x y yT, ty, pos, after, none⟩ :: l) Q tm S :=
  n_bin hd hx hy hvx hvy (fun w => by
    subst hb
    simp only [Sem.run_bind, run_eqGuard_agg w .eql xT x y xs ys hm, Result.andThen_ok, run_eql_struct, run_struct hu hp h w]) rest
theorem n_stne {xT yT : TypeId} {fs : Array Field} {x y : Operand} {dx dy : D} {xs ys : Array Value} {r b : Bool} (hd : Nat.blt t N = true) (hx : ev tm x = dx) (hy : ev tm y = dy) (hvx : dx.exact = some (.agg xs)) (hvy : dy.exact = some (.agg ys))
    (hu : P.underlying xT = some (.struct fs)) (hp : P.stoodInHeld xT = false) (hm : P.eqGuardType P.depth xT = false) (h : EqL P xs ys fs.toList r) (hb : (!r) = b)
    (rest : AOps P N ops l Q (put tm t (.val (.bool b))) S) : AOps P N ops (⟨some t, .binOp .neq xT x y yT, ty, pos, after, none⟩ :: l) Q tm S :=
  n_bin hd hx hy hvx hvy (fun w => by
    subst hb
    simp only [Sem.run_bind, run_eqGuard_agg w .neq xT x y xs ys hm, Result.andThen_ok, run_neq_struct, run_struct hu hp h w]) rest
theorem run_bool {xT : TypeId} (hu : P.underlying xT = some .bool) (a b : Bool) (w : World) : (Op.equalIn 10000 xT (.bool a) (.bool b)).run P w = .ok (a == b) w := run_equalIn_bool w 9999 xT a b hu
theorem n_beql {xT yT : TypeId} {x y : Operand} {a b c : Bool} (hd : Nat.blt t N = true) (hx : ev tm x = .val (.bool a)) (hy : ev tm y = .val (.bool b)) (hu : P.underlying xT = some .bool) (hb : (a == b) = c)
    (rest : AOps P N ops l Q (put tm t (.val (.bool c))) S) : AOps P N ops (⟨some t, .binOp .eql xT x y yT, ty, pos, after, none⟩ :: l) Q tm S :=
  n_bin hd hx hy rfl rfl (fun w => by
    subst hb
    simp [eqGuard_at_bool, binOp, Op.equal, Op.maxDepth, run_bool hu]) rest
theorem n_bneq {xT yT : TypeId} {x y : Operand} {a b c : Bool} (hd : Nat.blt t N = true) (hx : ev tm x = .val (.bool a)) (hy : ev tm y = .val (.bool b)) (hu : P.underlying xT = some .bool) (hb : (a != b) = c)
    (rest : AOps P N ops l Q (put tm t (.val (.bool c))) S) : AOps P N ops (⟨some t, .binOp .neq xT x y yT, ty, pos, after, none⟩ :: l) Q tm S :=
  n_bin hd hx hy rfl rfl (fun w => by
    subst hb
    simp [eqGuard_at_bool, binOp, Op.equal, Op.maxDepth, run_bool hu, bne]) rest
theorem n_min {T1 T2 : Array TypeId} {x y : Operand} {k : IntKind} {a b c : Int} (hd : Nat.blt t N = true) (hx : ev tm x = .val (.int k a)) (hy : ev tm y = .val (.int k b)) (hc : (if b < a then b else a) = c)
    (rest : AOps P N ops l Q (put tm t (.val (.int k c))) S) : AOps P N ops (⟨some t, .call ⟨.builtin .min, #[x, y], T1⟩, ty, pos, after, none⟩ :: l) Q tm S :=
  AOps.still rfl hd (fun g ac w st => by
    have rx := st.ev x
    have ry := st.ev y
    rw [hx] at rx
    rw [hy] at ry
    generalize hvx : ac.eval x = v at rx
    generalize hvy : ac.eval y = v' at ry
    cases rx
    cases ry
    refine ⟨_, ?_, .val _⟩
    simp only [execOp, resolve]
    simp [invoke, builtin, hvx, hvy, run_min_int2, hc]) rest
theorem n_max {T1 T2 : Array TypeId} {x y : Operand} {k : IntKind} {a b c : Int} (hd : Nat.blt t N = true) (hx : ev tm x = .val (.int k a)) (hy : ev tm y = .val (.int k b)) (hc : (if a < b then b else a) = c)
    (rest : AOps P N ops l Q (put tm t (.val (.int k c))) S) : AOps P N ops (⟨some t, .call ⟨.builtin .max, #[x, y], T1⟩, ty, pos, after, none⟩ :: l) Q tm S :=
  AOps.still rfl hd (fun g ac w st => by
    have rx := st.ev x
    have ry := st.ev y
    rw [hx] at rx
    rw [hy] at ry
    generalize hvx : ac.eval x = v at rx
    generalize hvy : ac.eval y = v' at ry
    cases rx
    cases ry
    refine ⟨_, ?_, .val _⟩
    simp only [execOp, resolve]
    simp [invoke, builtin, hvx, hvy, Builtin.max_, Builtin.max2, hc]) rest
end
end Go.Abs
