/- The rules as the walks call them: each operand's value told by an equation. -/
import Derived.Test.YtanfmpkjcoolmaaAbsJ
set_option linter.unusedVariables false
set_option linter.unusedSimpArgs false
namespace Go.Abs
variable {P : Program} {N : Nat} {ops : Array Oper} {l : List Oper} {Q : Exit → Tm → List Ob → Prop} {tm : Tm} {S : List Ob}

def bitsI (op : BinOp) (k : IntKind) (x y : Int) : Int :=
  let a := BitVec.ofInt k.bits x
  let b := BitVec.ofInt k.bits y
  match op with
  | .and => k.wrap ((a &&& b).toNat : Int)
  | .or => k.wrap ((a ||| b).toNat : Int)
  | .xor => k.wrap ((a ^^^ b).toNat : Int)
  | _ => k.wrap ((a &&& ~~~b).toNat : Int)

/-- Two whole numbers of one kind. -/
def ibin (op : BinOp) (k : IntKind) (a b : Int) : Option Value :=
  match op with
  | .add => some (.int k (k.wrap (a + b)))
  | .sub => some (.int k (k.wrap (a - b)))
  | .mul => some (.int k (k.wrap (a * b)))
  | .and => some (.int k (bitsI .and k a b))
  | .or => some (.int k (bitsI .or k a b))
  | .xor => some (.int k (bitsI .xor k a b))
  | .andNot => some (.int k (bitsI .andNot k a b))
  | .eql => some (.bool (a == b))
  | .neq => some (.bool (a != b))
  | .lss => some (.bool (decide (a < b)))
  | .leq => some (.bool (decide (a ≤ b)))
  | .gtr => some (.bool (decide (a > b)))
  | .geq => some (.bool (decide (a ≥ b)))
  | _ => none

theorem run_ibin {op : BinOp} {k : IntKind} {a b : Int} {v : Value} (h : ibin op k a b = some v) (t : TypeId) (x y : Operand) (w : World) :
    (do eqGuard op t x y (.int k a) (.int k b); binOp op t (.int k a) (.int k b) : Sem Value).run P w = .ok v w := by
  cases op <;> simp only [ibin, Option.some.injEq, reduceCtorEq] at h <;> subst h <;>
    simp [eqGuard_at_int, binOp, Op.intArith, Op.intBits, Op.intCmp, bitsI]

section ops
variable {t : Tmp} {ty : TypeId} {pos : String} {after : Array Edge}

theorem n_move {x : Operand} {d : D} (hd : Nat.blt t N = true) (hx : ev tm x = d) (rest : AOps P N ops l Q (put tm t d) S) : AOps P N ops (⟨some t, .move x, ty, pos, after, none⟩ :: l) Q tm S :=
  op_move (dst := some t) hd (by rw [hx]; exact rest)
theorem n_assign {x : Operand} {d : D} (hd : Nat.blt t N = true) (hx : ev tm x = d) (rest : AOps P N ops l Q (put tm t d) S) : AOps P N ops (⟨some t, .assign x, ty, pos, after, none⟩ :: l) Q tm S :=
  op_assign (dst := some t) hd (by rw [hx]; exact rest)
theorem n_pick {c x y : Operand} {b : Bool} {d : D} (hd : Nat.blt t N = true) (hc : ev tm c = .val (.bool b)) (hr : (bif b then ev tm x else ev tm y) = d) (rest : AOps P N ops l Q (put tm t d) S) : AOps P N ops (⟨some t, .pick c x y, ty, pos, after, none⟩ :: l) Q tm S :=
  op_pick (dst := some t) hc hd (by rw [hr]; exact rest)
theorem n_ibin {bop : BinOp} {xT yT : TypeId} {x y : Operand} {k : IntKind} {a b : Int} {v : Value} (hd : Nat.blt t N = true) (hx : ev tm x = .val (.int k a)) (hy : ev tm y = .val (.int k b)) (hv : ibin bop k a b = some v)
    (rest : AOps P N ops l Q (put tm t (.val v)) S) : AOps P N ops (⟨some t, .binOp bop xT x y yT, ty, pos, after, none⟩ :: l) Q tm S :=
  op_bin (dst := some t) (vx := .int k a) (vy := .int k b) hd (by rw [hx]; rfl) (by rw [hy]; rfl) (run_ibin hv xT x y) rest
/-- A sum, a difference that does not wrap round. -/
theorem n_iadd {xT yT : TypeId} {x y : Operand} {a b c : Int} (hd : Nat.blt t N = true) (hx : ev tm x = .val (.int .i64 a)) (hy : ev tm y = .val (.int .i64 b)) (hc : a + b = c) (h0 : -9223372036854775808 ≤ c) (h1 : c ≤ 9223372036854775807)
    (rest : AOps P N ops l Q (put tm t (.val (.int .i64 c))) S) : AOps P N ops (⟨some t, .binOp .add xT x y yT, ty, pos, after, none⟩ :: l) Q tm S :=
  n_ibin hd hx hy (by simp only [ibin, hc, IntWalk.i64_in c ⟨h0, by omega⟩]) rest
theorem n_isub {xT yT : TypeId} {x y : Operand} {a b c : Int} (hd : Nat.blt t N = true) (hx : ev tm x = .val (.int .i64 a)) (hy : ev tm y = .val (.int .i64 b)) (hc : a - b = c) (h0 : -9223372036854775808 ≤ c) (h1 : c ≤ 9223372036854775807)
    (rest : AOps P N ops l Q (put tm t (.val (.int .i64 c))) S) : AOps P N ops (⟨some t, .binOp .sub xT x y yT, ty, pos, after, none⟩ :: l) Q tm S :=
  n_ibin hd hx hy (by simp only [ibin, hc, IntWalk.i64_in c ⟨h0, by omega⟩]) rest
theorem n_imul {xT yT : TypeId} {x y : Operand} {a b c : Int} (hd : Nat.blt t N = true) (hx : ev tm x = .val (.int .i64 a)) (hy : ev tm y = .val (.int .i64 b)) (hc : a * b = c) (h0 : -9223372036854775808 ≤ c) (h1 : c ≤ 9223372036854775807)
    (rest : AOps P N ops l Q (put tm t (.val (.int .i64 c))) S) : AOps P N ops (⟨some t, .binOp .mul xT x y yT, ty, pos, after, none⟩ :: l) Q tm S :=
  n_ibin hd hx hy (by simp only [ibin, hc, IntWalk.i64_in c ⟨h0, by omega⟩]) rest
theorem n_shl {xT yT : TypeId} {x y : Operand} {k ky : IntKind} {a b c : Int} (hd : Nat.blt t N = true) (hx : ev tm x = .val (.int k a)) (hy : ev tm y = .val (.int ky b)) (hb : 0 ≤ b) (hc : k.wrap (a * 2 ^ (min b.toNat k.bits)) = c)
    (rest : AOps P N ops l Q (put tm t (.val (.int k c))) S) : AOps P N ops (⟨some t, .binOp .shl xT x y yT, ty, pos, after, none⟩ :: l) Q tm S :=
  op_bin (dst := some t) (vx := .int k a) (vy := .int ky b) hd (by rw [hx]; rfl) (by rw [hy]; rfl) (fun w => by
    have : ¬ b < 0 := by omega
    simp [eqGuard_at_int, binOp, Op.shift, this, hc]) rest
theorem n_shr {xT yT : TypeId} {x y : Operand} {k ky : IntKind} {a b c : Int} (hd : Nat.blt t N = true) (hx : ev tm x = .val (.int k a)) (hy : ev tm y = .val (.int ky b)) (hb : 0 ≤ b) (hc : a.fdiv (2 ^ (min b.toNat k.bits)) = c)
    (rest : AOps P N ops l Q (put tm t (.val (.int k c))) S) : AOps P N ops (⟨some t, .binOp .shr xT x y yT, ty, pos, after, none⟩ :: l) Q tm S :=
  op_bin (dst := some t) (vx := .int k a) (vy := .int ky b) hd (by rw [hx]; rfl) (by rw [hy]; rfl) (fun w => by
    have : ¬ b < 0 := by omega
    simp [eqGuard_at_int, binOp, Op.shift, this, hc]) rest
theorem n_quo {xT yT : TypeId} {x y : Operand} {k : IntKind} {a b c : Int} (hd : Nat.blt t N = true) (hx : ev tm x = .val (.int k a)) (hy : ev tm y = .val (.int k b)) (hb : b ≠ 0) (hc : k.wrap (a.tdiv b) = c)
    (rest : AOps P N ops l Q (put tm t (.val (.int k c))) S) : AOps P N ops (⟨some t, .binOp .quo xT x y yT, ty, pos, after, none⟩ :: l) Q tm S :=
  op_bin (dst := some t) (vx := .int k a) (vy := .int k b) hd (by rw [hx]; rfl) (by rw [hy]; rfl) (fun w => by simp [eqGuard_at_int, binOp, Op.intDiv, hb, hc]) rest
theorem n_rem {xT yT : TypeId} {x y : Operand} {k : IntKind} {a b c : Int} (hd : Nat.blt t N = true) (hx : ev tm x = .val (.int k a)) (hy : ev tm y = .val (.int k b)) (hb : b ≠ 0) (hc : a.tmod b = c)
    (rest : AOps P N ops l Q (put tm t (.val (.int k c))) S) : AOps P N ops (⟨some t, .binOp .rem xT x y yT, ty, pos, after, none⟩ :: l) Q tm S :=
  op_bin (dst := some t) (vx := .int k a) (vy := .int k b) hd (by rw [hx]; rfl) (by rw [hy]; rfl) (fun w => by simp [eqGuard_at_int, binOp, Op.intDiv, hb, hc]) rest
/-- Other values that are known wholly. -/
theorem n_bin {bop : BinOp} {xT yT : TypeId} {x y : Operand} {dx dy : D} {vx vy v : Value} (hd : Nat.blt t N = true) (hx : ev tm x = dx) (hy : ev tm y = dy) (hvx : dx.exact = some vx) (hvy : dy.exact = some vy)
    (hrun : ∀ w : World, (do eqGuard bop xT x y vx vy; binOp bop xT vx vy : Sem Value).run P w = .ok v w)
    (rest : AOps P N ops l Q (put tm t (.val v)) S) : AOps P N ops (⟨some t, .binOp bop xT x y yT, ty, pos, after, none⟩ :: l) Q tm S :=
  op_bin (dst := some t) hd (by rw [hx]; exact hvx) (by rw [hy]; exact hvy) hrun rest
theorem n_not {xT : TypeId} {x : Operand} {b b' : Bool} (hd : Nat.blt t N = true) (hx : ev tm x = .val (.bool b)) (hb : (!b) = b') (rest : AOps P N ops l Q (put tm t (.val (.bool b'))) S) : AOps P N ops (⟨some t, .unOp .not xT x, ty, pos, after, none⟩ :: l) Q tm S :=
  op_un (dst := some t) (vx := .bool b) hd (by rw [hx]; rfl) (fun w => by rw [← hb]; rfl) rest
theorem n_neg {xT : TypeId} {x : Operand} {k : IntKind} {a c : Int} (hd : Nat.blt t N = true) (hx : ev tm x = .val (.int k a)) (hc : k.wrap (0 - a) = c) (rest : AOps P N ops l Q (put tm t (.val (.int k c))) S) : AOps P N ops (⟨some t, .unOp .neg xT x, ty, pos, after, none⟩ :: l) Q tm S :=
  op_un (dst := some t) (vx := .int k a) hd (by rw [hx]; rfl) (fun w => by rw [← hc]; rfl) rest
theorem n_conv {src dT : TypeId} {x : Operand} {k k' : IntKind} {a c : Int} (hd : Nat.blt t N = true) (hx : ev tm x = .val (.int k a)) (hs : (P.underlying src).isSome = true) (hdT : P.underlying dT = some (.int k')) (hc : k'.wrap a = c)
    (rest : AOps P N ops l Q (put tm t (.val (.int k' c))) S) : AOps P N ops (⟨some t, .convert src dT x, ty, pos, after, none⟩ :: l) Q tm S :=
  op_conv (dst := some t) (vx := .int k a) hd (by rw [hx]; rfl) (fun w => by
    obtain ⟨u, hu⟩ := Option.isSome_iff_exists.1 hs
    simp only [convert, Sem.run_bind, run_underlying hu, run_underlying hdT, Result.andThen_ok, Conv.intToInt]
    cases u <;> simp [Conv.intToInt, hc]) rest
theorem n_extract {x : Operand} {i : Nat} {ds : List D} {d : D} (hd : Nat.blt t N = true) (hx : ev tm x = .tup ds) (hi : ds[i]? = some d)
    (rest : AOps P N ops l Q (put tm t d) S) : AOps P N ops (⟨some t, .extract x i, ty, pos, after, none⟩ :: l) Q tm S := op_extract (dst := some t) hd hx hi rest
theorem n_nilCheck {x : Operand} {d : D} (hd : Nat.blt t N = true) (hx : ev tm x = d) (hp : d.ptr = true) (rest : AOps P N ops l Q (put tm t d) S) : AOps P N ops (⟨some t, .nilCheck x, ty, pos, after, none⟩ :: l) Q tm S :=
  op_nilCheck (dst := some t) hd (by rw [hx]; exact hp) (by rw [hx]; exact rest)
theorem n_makeFunc {f : Fn} {first caps : Array Operand} {fi ca : List D} (hd : Nat.blt t N = true) (h1 : first.toList.map (ev tm) = fi) (h2 : caps.toList.map (ev tm) = ca) (rest : AOps P N ops l Q (put tm t (.fn f fi ca)) S) :
    AOps P N ops (⟨some t, .makeFunc f first caps, ty, pos, after, none⟩ :: l) Q tm S := op_makeFunc (dst := some t) hd (by rw [h1, h2]; exact rest)
theorem n_alloc {elem : TypeId} {z : Value} {n : Nat} {ds : List D} {S' : List Ob} (hd : Nat.blt t N = true) (hz : (P.info? elem).map (·.zero) = some (some z)) (hn : S.length = n) (hds : z.cells.toList.map ofV = ds) (hS : S ++ [.box ds] = S')
    (rest : AOps P N ops l Q (put tm t (.bp n 0)) S') : AOps P N ops (⟨some t, .alloc elem, ty, pos, after, none⟩ :: l) Q tm S := op_alloc (dst := some t) hd hz (by rw [hds, hn, hS]; exact rest)
theorem n_box {elem : TypeId} {x : Operand} {d : D} {n : Nat} {ds : List D} {S' : List Ob} (hd : Nat.blt t N = true) (hx : ev tm x = d) (hs : d.solid = true) (hn : S.length = n) (hds : d.cells = ds) (hS : S ++ [.box ds] = S')
    (rest : AOps P N ops l Q (put tm t (.bp n 0)) S') : AOps P N ops (⟨some t, .box elem x, ty, pos, after, none⟩ :: l) Q tm S := op_box (dst := some t) hd (by rw [hx]; exact hs) (by rw [hx, hds, hn, hS]; exact rest)
theorem n_load {T : TypeId} {x : Operand} {sz : Nat} {ag : Bool} {p d : D} {cs : List D} (hd : Nat.blt t N = true) (ht : TI P T sz ag) (hx : ev tm x = p) (hp : p.at S = some cs) (hsz : Nat.ble (bif ag then sz else 1) cs.length = true) (hr : D.ofCells ag sz cs = d)
    (rest : AOps P N ops l Q (put tm t d) S) : AOps P N ops (⟨some t, .load T x, ty, pos, after, none⟩ :: l) Q tm S := op_load (dst := some t) hd ht (by rw [hx]; exact hp) hsz (by rw [hr]; exact rest)
theorem n_store {T : TypeId} {x y : Operand} {sz off l0 : Nat} {ag : Bool} {ds cs : List D} {d : D} {S' : List Ob} (ht : TI P T sz ag) (hx : ev tm x = .bp l0 off) (hl : S[l0]? = some (.box ds)) (hy : ev tm y = d)
    (hs : d.solid = true) (hcs : d.cells = cs) (hone : cs.all D.one = true) (hsz : cs.length = sz) (hoff : Nat.ble (off + sz) ds.length = true) (hS : S.set l0 (.box (splice ds off cs)) = S')
    (rest : AOps P N ops l Q tm S') : AOps P N ops (⟨none, .store T x y, ty, pos, after, none⟩ :: l) Q tm S :=
  op_store (dst := none) rfl ht hx hl (by rw [hy]; exact hs) (by rw [hy, hcs]; exact hone) (by rw [hy, hcs]; exact hsz) hoff (by rw [hy, hcs, hS]; exact rest)
theorem n_fieldAddr {s : TypeId} {x : Operand} {i ft off sz : Nat} {ag : Bool} {p d : D} (hd : Nat.blt t N = true) (hf : FD P s i ft off) (ht : TI P ft sz ag) (hsz : Nat.blt 0 sz = true) (hx : ev tm x = p) (hp : p.loc = true) (hr : p.shift off = d)
    (rest : AOps P N ops l Q (put tm t d) S) : AOps P N ops (⟨some t, .fieldAddr s x i, ty, pos, after, none⟩ :: l) Q tm S := op_fieldAddr (dst := some t) hd hf ht hsz (by rw [hx]; exact hp) (by rw [hx, hr]; exact rest)
theorem n_field {s : TypeId} {x : Operand} {i ft off sz : Nat} {ag : Bool} {cs : List D} {d : D} (hd : Nat.blt t N = true) (hf : FD P s i ft off) (ht : TI P ft sz ag) (hx : ev tm x = .agg cs) (hlen : Nat.ble (off + bif ag then sz else 1) cs.length = true) (hr : D.ofCells ag sz (cs.drop off) = d)
    (rest : AOps P N ops l Q (put tm t d) S) : AOps P N ops (⟨some t, .field s x i, ty, pos, after, none⟩ :: l) Q tm S := op_field (dst := some t) hd hf ht (by rw [hx]; rfl) (by rw [hx]; rfl) (by rw [hx]) hlen (by rw [hr]; exact rest)
theorem n_indexAddr {T e : TypeId} {x y : Operand} {sz : Nat} {ag : Bool} {nl : Option Bool} {xs : List (List D)} {c : Cap} {k : IntKind} {n : Int} {cs : List D} (hd : Nat.blt t N = true)
    (hu : P.underlying T = some (.slice e)) (ht : TI P e sz ag) (hsz : Nat.blt 0 sz = true) (hx : ev tm x = .sl nl xs c) (hy : ev tm y = .val (.int k n)) (h0 : 0 ≤ n) (hi : xs[n.toNat]? = some cs) (hcs : cs.length = sz)
    (rest : AOps P N ops l Q (put tm t (.rp cs)) S) : AOps P N ops (⟨some t, .indexAddr T x y, ty, pos, after, none⟩ :: l) Q tm S := op_indexAddr (dst := some t) hd hu ht hsz hx hy h0 hi hcs rest
theorem n_len {T e : TypeId} {x : Operand} {nl : Option Bool} {xs : List (List D)} {c : Cap} {n : Int} (hd : Nat.blt t N = true) (hu : P.underlying T = some (.slice e)) (hx : ev tm x = .sl nl xs c) (hn : (xs.length : Int) = n)
    (rest : AOps P N ops l Q (put tm t (.val (.int .i64 n))) S) : AOps P N ops (⟨some t, .call ⟨.builtin .len, #[x], #[T]⟩, ty, pos, after, none⟩ :: l) Q tm S := op_len (dst := some t) (cs := #[]) hd hu hx (by rw [hn]; exact rest)
theorem n_slice {T e : TypeId} {x : Operand} {lo hi : Option Operand} {sz k h : Nat} {ag : Bool} {nl : Option Bool} {xs ys : List (List D)} {c : Cap} (hd : Nat.blt t N = true)
    (hu : P.underlying T = some (.slice e)) (ht : TI P e sz ag) (hx : ev tm x = .sl nl xs c) (hhi : SB tm hi xs.length h) (hlo : SB tm lo 0 k) (h1 : k ≤ h) (h2 : h ≤ xs.length) (hsz : ∀ y ∈ xs, y.length = sz) (hr : (xs.take h).drop k = ys)
    (rest : AOps P N ops l Q (put tm t (.sl nl ys .ro)) S) : AOps P N ops (⟨some t, .slice T x lo hi none, ty, pos, after, none⟩ :: l) Q tm S := op_slice (dst := some t) hd hu ht hx hhi hlo h1 h2 hsz (by rw [hr]; exact rest)
theorem n_slice3 {T e : TypeId} {x : Operand} {lo : Option Operand} {hi mx : Operand} {sz k h : Nat} {ag : Bool} {nl : Option Bool} {xs ys : List (List D)} {c : Cap} (hd : Nat.blt t N = true)
    (hu : P.underlying T = some (.slice e)) (ht : TI P e sz ag) (hx : ev tm x = .sl nl xs c) (hhi : SB tm (some hi) 0 h) (hmx : SB tm (some mx) 0 h) (hlo : SB tm lo 0 k) (h1 : k ≤ h) (h2 : h ≤ xs.length) (hsz : ∀ y ∈ xs, y.length = sz) (hr : (xs.take h).drop k = ys)
    (rest : AOps P N ops l Q (put tm t (.sl nl ys .full)) S) : AOps P N ops (⟨some t, .slice T x lo (some hi) (some mx), ty, pos, after, none⟩ :: l) Q tm S := op_slice3 (dst := some t) hd hu ht hx hhi hmx hlo h1 h2 hsz (by rw [hr]; exact rest)
theorem n_eqnil {xT yT e : TypeId} {x : Operand} {nl : Option Bool} {xs : List (List D)} {c : Cap} (hd : Nat.blt t N = true) (hu : P.underlying xT = some (.slice e)) (hx : ev tm x = .sl nl xs c)
    (rest : ∀ b, (∀ b', nl = some b' → b = b') → (b = true → xs = []) → AOps P N ops l Q (put tm t (.val (.bool b))) S) : AOps P N ops (⟨some t, .binOp .eql xT x (.const (.slice none 0 0)) yT, ty, pos, after, none⟩ :: l) Q tm S :=
  op_eqnil (dst := some t) (neg := false) rfl hd hu hx (fun b h1 h2 => by rw [Bool.false_xor]; exact rest b h1 h2)
theorem n_nenil {xT yT e : TypeId} {x : Operand} {nl : Option Bool} {xs : List (List D)} {c : Cap} (hd : Nat.blt t N = true) (hu : P.underlying xT = some (.slice e)) (hx : ev tm x = .sl nl xs c)
    (rest : ∀ b, (∀ b', nl = some b' → b = b') → (b = true → xs = []) → AOps P N ops l Q (put tm t (.val (.bool (!b)))) S) : AOps P N ops (⟨some t, .binOp .neq xT x (.const (.slice none 0 0)) yT, ty, pos, after, none⟩ :: l) Q tm S :=
  op_eqnil (dst := some t) (neg := true) rfl hd hu hx (fun b h1 h2 => by rw [Bool.true_xor]; exact rest b h1 h2)
theorem n_ptreq {xT yT e : TypeId} {x : Operand} {p : D} (hd : Nat.blt t N = true) (hu : P.underlying xT = some (.pointer e)) (hx : ev tm x = p) (hp : p.loc = true)
    (rest : AOps P N ops l Q (put tm t (.val (.bool false))) S) : AOps P N ops (⟨some t, .binOp .eql xT x (.const (.pointer none)) yT, ty, pos, after, none⟩ :: l) Q tm S := op_ptrnil (dst := some t) (neg := false) rfl hd hu (by rw [hx]; exact hp) rest
theorem n_build {T : TypeId} {parts : Array (Nat × Operand)} {pl : Array (Nat × Nat)} {z : Value} {zs r : List D} {ps : List (Nat × D)} (hd : Nat.blt t N = true) (ht : SI P T pl z) (hz : z.cells.toList.map ofV = zs) (hp : parts.toList.map (fun (p : Nat × Operand) => (p.1, ev tm p.2)) = ps)
    (hr : fillD (fun i => pl[i]?) zs ps = some r)
    (rest : AOps P N ops l Q (put tm t (.agg r)) S) : AOps P N ops (⟨some t, .build T parts, ty, pos, after, none⟩ :: l) Q tm S := op_build (dst := some t) hd ht (by rw [hz, hp]; exact hr) rest
theorem n_lit {T e : TypeId} {len sz : Nat} {ag : Bool} {z : Value} {parts : Array (Nat × Operand)} {ps : List D} {xs : List (List D)} (hd : Nat.blt t N = true) (hu : P.underlying T = some (.slice e)) (ht : TI P e sz ag) (hz : (P.info? e).map (·.zero) = some (some z))
    (hi : parts.toList.map (·.1) = List.range len) (hlen : Nat.ble (len * sz) 16777216 = true) (hp : parts.toList.map (fun p => ev tm p.2) = ps)
    (hok : ps.all (fun d => d.solid && Nat.beq d.cells.length sz && d.cells.all D.one) = true) (hxs : ps.map D.cells = xs)
    (rest : AOps P N ops l Q (put tm t (.sl (some false) xs .full)) S) : AOps P N ops (⟨some t, .buildSlice T len parts, ty, pos, after, none⟩ :: l) Q tm S :=
  op_lit (dst := some t) hd hu ht hz hi hlen (by rw [← hp, List.all_map] at hok; exact hok) (by rw [← hp, List.map_map] at hxs; exact hxs) rest
theorem n_append_full {T tx e e' : TypeId} {x y : Operand} {sz bytes n m : Nat} {z : Value} {nl nl' : Option Bool} {xs ys zs : List (List D)} {c' : Cap} {S' : List Ob} (hd : Nat.blt t N = true) (hu : P.underlying T = some (.slice e)) (hux : P.underlying tx = some (.slice e')) (he : EI P e sz bytes z)
    (hx : ev tm x = .sl nl xs .full) (hy : ev tm y = .sl nl' ys c') (hsx : ∀ x ∈ xs, x.length = sz) (hsy : ∀ x ∈ ys, x.length = sz) (hz : xs ++ ys = zs) (hm : xs.length + ys.length = m) (hroom : m * bytes ≤ 140737488355328) (hn : S.length = n) (hS : S ++ [.row m sz] = S')
    (rest : AOps P N ops l Q (put tm t (.sl none zs (.own n))) S') : AOps P N ops (⟨some t, .call ⟨.builtin .append, #[x, y], #[T, tx]⟩, ty, pos, after, none⟩ :: l) Q tm S :=
  op_append_full (dst := some t) hd hu hux he hx hy hsx hsy (by rw [hm]; exact hroom) (by rw [hz, hm, hn, hS]; exact rest)
theorem n_append_own {T tx e e' : TypeId} {x y : Operand} {sz bytes l0 n0 m : Nat} {z : Value} {nl nl' : Option Bool} {xs ys zs : List (List D)} {c' : Cap} {S' : List Ob} (hd : Nat.blt t N = true) (hu : P.underlying T = some (.slice e)) (hux : P.underlying tx = some (.slice e')) (he : EI P e sz bytes z)
    (hx : ev tm x = .sl nl xs (.own l0)) (hl : S[l0]? = some (.row n0 sz)) (hn0 : n0 = xs.length) (hy : ev tm y = .sl nl' ys c') (hsx : ∀ x ∈ xs, x.length = sz) (hsy : ∀ x ∈ ys, x.length = sz) (hz : xs ++ ys = zs) (hm : xs.length + ys.length = m) (hroom : m * bytes ≤ 140737488355328) (hS : S.set l0 (.row m sz) = S')
    (rest : AOps P N ops l Q (put tm t (.sl none zs (.own l0))) S') : AOps P N ops (⟨some t, .call ⟨.builtin .append, #[x, y], #[T, tx]⟩, ty, pos, after, none⟩ :: l) Q tm S :=
  op_append_own (dst := some t) hd hu hux he hx hl hn0 hy hsx hsy (by rw [hm]; exact hroom) (by rw [hz, hm, hS]; exact rest)
theorem n_guard {dst : Option Tmp} {op : Op} {j : Nat} {want : Bool} {u : Nat} {b : Bool}
    (hj : (ops[j]?).bind (·.dst) = some u) (hd : dstOk N dst = true) (ht : Nat.blt u N = true) (hb : tm u = .val (.bool b))
    (hyes : b = want → AOps P N ops (⟨dst, op, ty, pos, after, none⟩ :: l) Q tm S) (hno : b = !want → AOps P N ops l Q (putO tm dst .any) S) :
    AOps P N ops (⟨dst, op, ty, pos, after, some (j, want)⟩ :: l) Q tm S := AOps.guard hj hd ht hb hyes hno
theorem n_guard_yes {dst : Option Tmp} {op : Op} {j : Nat} {want : Bool} {u : Nat} {b : Bool}
    (hj : (ops[j]?).bind (·.dst) = some u) (hd : dstOk N dst = true) (ht : Nat.blt u N = true) (hb : tm u = .val (.bool b)) (hw : b = want)
    (hyes : AOps P N ops (⟨dst, op, ty, pos, after, none⟩ :: l) Q tm S) : AOps P N ops (⟨dst, op, ty, pos, after, some (j, want)⟩ :: l) Q tm S := AOps.guard hj hd ht hb (fun _ => hyes) (fun h => by subst hw; cases b <;> cases h)
theorem n_guard_no {dst : Option Tmp} {op : Op} {j : Nat} {want : Bool} {u : Nat} {b : Bool}
    (hj : (ops[j]?).bind (·.dst) = some u) (hd : dstOk N dst = true) (ht : Nat.blt u N = true) (hb : tm u = .val (.bool b)) (hw : b = !want)
    (hno : AOps P N ops l Q (putO tm dst .any) S) : AOps P N ops (⟨dst, op, ty, pos, after, some (j, want)⟩ :: l) Q tm S := AOps.guard hj hd ht hb (fun h => by subst hw; cases want <;> cases h) (fun _ => hno)

theorem n_call0 {fo : Operand} {as : Array Operand} {ts : Array TypeId} {f : FuncId} {fi ca args : List D} {ds : List D} {r : D} (hd : Nat.blt t N = true) (hcf : CF P f) (hf : ev tm fo = .fn (.func f) fi ca)
    (ha : fi ++ as.toList.map (ev tm) ++ ca = args) (h : Does P f ds [] r []) (hargs : RenAll (fun _ _ => False) (fun _ _ => False) args ds) (hr : LF r)
    (rest : AOps P N ops l Q (put tm t r) S) : AOps P N ops (⟨some t, .call ⟨.value fo, as, ts⟩, ty, pos, after, none⟩ :: l) Q tm S := op_call0 (dst := some t) hd hcf hf h ha hargs hr rest
theorem n_callOwn {fo : Operand} {as : Array Operand} {ts : Array TypeId} {f : FuncId} {fi ca args : List D} {ds : List D} {nl : Option Bool} {xs : List (List D)} {k sz n : Nat} {S' : List Ob} (hd : Nat.blt t N = true) (hcf : CF P f) (hf : ev tm fo = .fn (.func f) fi ca)
    (ha : fi ++ as.toList.map (ev tm) ++ ca = args) (h : Does P f ds [] (.sl nl xs (.own 0)) [.row k sz]) (hargs : RenAll (fun _ _ => False) (fun _ _ => False) args ds) (hx : ∀ x ∈ xs, ∀ d ∈ x, LF d) (hn : S.length = n) (hS : S ++ [.row k sz] = S')
    (rest : AOps P N ops l Q (put tm t (.sl none xs (.own n))) S') : AOps P N ops (⟨some t, .call ⟨.value fo, as, ts⟩, ty, pos, after, none⟩ :: l) Q tm S := op_callOwn (dst := some t) hd hcf hf h ha hargs hx (by rw [hn, hS]; exact rest)
theorem n_callNew {fo : Operand} {as : Array Operand} {ts : Array TypeId} {f : FuncId} {fi ca args : List D} {ds : List D} {bs : List D} {n : Nat} {S' : List Ob} (hd : Nat.blt t N = true) (hcf : CF P f) (hf : ev tm fo = .fn (.func f) fi ca)
    (ha : fi ++ as.toList.map (ev tm) ++ ca = args) (h : Does P f ds [] (.bp 0 0) [.box bs]) (hargs : RenAll (fun _ _ => False) (fun _ _ => False) args ds) (hx : ∀ d ∈ bs, LF d) (hn : S.length = n) (hS : S ++ [.box bs] = S')
    (rest : AOps P N ops l Q (put tm t (.bp n 0)) S') : AOps P N ops (⟨some t, .call ⟨.value fo, as, ts⟩, ty, pos, after, none⟩ :: l) Q tm S := op_callNew (dst := some t) hd hcf hf h ha hargs hx (by rw [hn, hS]; exact rest)
theorem n_callBox {fo : Operand} {as : Array Operand} {ts : Array TypeId} {f : FuncId} {fi ca args : List D} {ds : List D} {l0 : Nat} {cs bs bs' : List D} {r : D} {S' : List Ob} (hd : dstOk N (some t) = true) (hcf : CF P f) (hf : ev tm fo = .fn (.func f) fi ca)
    (ha : fi ++ as.toList.map (ev tm) ++ ca = args) (hl : S[l0]? = some (.box cs)) (h : Does P f ds [.box bs] r [.box bs']) (hin : RenAll (fun _ _ => False) (fun _ _ => False) cs bs) (hargs : RenAll (fun a b => a = l0 ∧ b = 0) (fun _ _ => False) args ds) (hx : ∀ d ∈ bs', LF d) (hr : LF r) (hS : S.set l0 (.box bs') = S')
    (rest : AOps P N ops l Q (put tm t r) S') : AOps P N ops (⟨some t, .call ⟨.value fo, as, ts⟩, ty, pos, after, none⟩ :: l) Q tm S := op_callBox (dst := some t) hd hcf hf h ha hl hin hargs hx hr (by rw [hS]; exact rest)
end ops
end Go.Abs
