/- Plain laws. -/
import Derived.Test.YtanfmpkjcoolmaaGreatAbsN
import Derived.Test.YtanfmpkjcoolmaaGreatAbsA
/- Shorter forms of rules that recur. -/
set_option linter.unusedVariables false
set_option linter.unusedSimpArgs false
namespace Go.Abs
variable {P : Program} {N : Nat} {ops : Array Oper} {l : List Oper} {Q : Exit → Tm → List Ob → Prop} {tm : Tm} {S : List Ob} {t : Tmp} {ty : TypeId} {pos : String} {after : Array Edge}
theorem AWP.condT {c : Operand} {x y : Code} {b : Bool} (hc : ev tm c = .val (.bool b)) (hb : b = true) (h : AWP P N x Q tm S) : AWP P N (.cond c x y) Q tm S := AWP.cond hc (fun _ => h) (fun e => by rw [hb] at e; cases e)
theorem AWP.condF {c : Operand} {x y : Code} {b : Bool} (hc : ev tm c = .val (.bool b)) (hb : b = false) (h : AWP P N y Q tm S) : AWP P N (.cond c x y) Q tm S := AWP.cond hc (fun e => by rw [hb] at e; cases e) (fun _ => h)
theorem AWP.sr {l : List Oper} {id : Nat} {y : Code} (h : AOps P N l.toArray l (Then (fun tm' S' => AWP P N y Q tm' S') Q) tm S) : AWP P N (.seq (.region id l.toArray false) y) Q tm S := AWP.seq (AWP.region h)
theorem n_softT {op : Op} {j : Nat} {u : Nat} (b : Bool) {d : D} (hj : (ops[j]?).bind (·.dst) = some u) (hd : Nat.blt t N = true) (ht : Nat.blt u N = true) (hu : tm u = .val (.bool b))
    (step : b = true → AOps P N ops [⟨some t, op, ty, pos, after, none⟩] (fun e tm' S' => e = .normal ∧ tm' = put tm t d ∧ S' = S) tm S)
    (rest : AOps P N ops l Q (put tm t (bif b then d else .val undef)) S) : AOps P N ops (⟨some t, op, ty, pos, after, some (j, true)⟩ :: l) Q tm S :=
  n_soft (u := u) (E := .val (.bool b)) b hj hd ht hu (fun h => by rw [h]) (fun h => ⟨_, rfl, by rw [h]; simp⟩) step rest
theorem n_softF {op : Op} {j : Nat} {u : Nat} (b : Bool) {d : D} (hj : (ops[j]?).bind (·.dst) = some u) (hd : Nat.blt t N = true) (ht : Nat.blt u N = true) (hu : tm u = .val (.bool b))
    (step : b = false → AOps P N ops [⟨some t, op, ty, pos, after, none⟩] (fun e tm' S' => e = .normal ∧ tm' = put tm t d ∧ S' = S) tm S)
    (rest : AOps P N ops l Q (put tm t (bif (!b) then d else .val undef)) S) : AOps P N ops (⟨some t, op, ty, pos, after, some (j, false)⟩ :: l) Q tm S :=
  n_soft (u := u) (E := .val (.bool b)) (!b) hj hd ht hu (fun h => by cases b with | true => cases h | false => rfl) (fun h => ⟨_, rfl, by cases b with | true => simp | false => cases h⟩) (fun h => step (by cases b with | true => cases h | false => rfl)) rest
end Go.Abs

/- Plain: the numbers' forms. -/
set_option linter.unusedVariables false
set_option linter.unusedSimpArgs false
namespace Go.Abs

/-- The natural number of a number with a sign. -/
def natN (n : Int) : Nat := if 0 ≤ n then 2 * n.toNat else 2 * (-n - 1).toNat + 1

theorem natN_lt {n : Int} (h0 : -9223372036854775808 ≤ n) (h1 : n ≤ 9223372036854775807) : natN n < 18446744073709551616 := by
  unfold natN; split <;> omega

theorem bv_xor_ones (x : Nat) (h : x < 18446744073709551616) : (BitVec.ofNat 64 x ^^^ BitVec.allOnes 64).toNat = 18446744073709551615 - x := by
  rw [BitVec.xor_allOnes, BitVec.toNat_not, BitVec.toNat_ofNat, Nat.mod_eq_of_lt h]

theorem natural_eq {n : Int} (h0 : -9223372036854775808 ≤ n) (h1 : n ≤ 9223372036854775807) :
    bitsI .xor .u64 (IntKind.u64.wrap (IntKind.u64.wrap n * 2 ^ min (Int.toNat 1) IntKind.u64.bits)) (IntKind.u64.wrap (n.fdiv (2 ^ min (Int.toNat 63) IntKind.i64.bits))) = (natN n : Int) := by
  have e1 : (2 : Int) ^ min (Int.toNat 1) IntKind.u64.bits = 2 := by decide
  have e2 : (2 : Int) ^ min (Int.toNat 63) IntKind.i64.bits = 9223372036854775808 := by decide
  have w : ∀ a : Int, IntKind.u64.wrap a = a % 18446744073709551616 := by
    intro a
    show (if (false && decide (a % 18446744073709551616 ≥ 9223372036854775808)) = true then a % 18446744073709551616 - 18446744073709551616 else a % 18446744073709551616) = _
    rw [if_neg (by simp)]
  rw [e1, e2, w, w, w]
  have hx : ∀ x y : Int, bitsI .xor .u64 x y = IntKind.u64.wrap (((BitVec.ofInt 64 x ^^^ BitVec.ofInt 64 y : BitVec 64).toNat : Nat) : Int) := fun _ _ => rfl
  rw [hx, w]
  by_cases hn : 0 ≤ n
  · have hd : n.fdiv 9223372036854775808 = 0 := by
      rw [Int.fdiv_eq_ediv_of_nonneg _ (by decide)]; omega
    have ha : (n % 18446744073709551616 * 2) % 18446744073709551616 = ((2 * n.toNat : Nat) : Int) := by omega
    rw [hd, ha]
    have hz : (0 : Int) % 18446744073709551616 = ((0 : Nat) : Int) := rfl
    rw [hz]
    rw [BitVec.ofInt_natCast, BitVec.ofInt_natCast]
    simp only [BitVec.xor_zero, BitVec.toNat_ofNat]
    unfold natN
    rw [if_pos hn]
    have : (2 * n.toNat) % 2 ^ 64 = 2 * n.toNat := Nat.mod_eq_of_lt (by omega)
    rw [this]; omega
  · have hd : n.fdiv 9223372036854775808 = -1 := by
      rw [Int.fdiv_eq_ediv_of_nonneg _ (by decide)]; omega
    have hm : (-1 : Int) % 18446744073709551616 = ((18446744073709551615 : Nat) : Int) := by decide
    have ha : (n % 18446744073709551616 * 2) % 18446744073709551616 = ((18446744073709551615 - natN n : Nat) : Int) := by
      unfold natN; rw [if_neg hn]; omega
    have hlt := natN_lt h0 h1
    rw [hd, hm, ha]
    rw [BitVec.ofInt_natCast, BitVec.ofInt_natCast]
    have ho : BitVec.ofNat 64 18446744073709551615 = BitVec.allOnes 64 := by decide
    rw [ho, bv_xor_ones _ (by omega)]
    omega

/-- The digits to the base 128 but the last one, with 128 added; the highest first. -/
def hiD (v : Nat) : List Int := if h : v = 0 then [] else hiD (v / 128) ++ [((v % 128 + 128 : Nat) : Int)]
termination_by v
decreasing_by omega
def formN (u : Nat) : List Int := hiD (u / 128) ++ [((u % 128 : Nat) : Int)]
def form (n : Int) : List Int := formN (natN n)
def forms (l : List Int) : List Int := l.flatMap form

def sizeN (u : Nat) : Nat := if h : u < 128 then 1 else sizeN (u / 128) + 1
termination_by u
decreasing_by omega

theorem sizeN_small {u : Nat} (h : u < 128) : sizeN u = 1 := by rw [sizeN, dif_pos h]
theorem sizeN_big {u : Nat} (h : 128 ≤ u) : sizeN u = sizeN (u / 128) + 1 := by rw [sizeN, dif_neg (by omega)]
theorem hiD_zero : hiD 0 = [] := by rw [hiD]; rfl
theorem hiD_pos {v : Nat} (h : v ≠ 0) : hiD v = hiD (v / 128) ++ [((v % 128 + 128 : Nat) : Int)] := by rw [hiD, dif_neg h]
theorem hiD_length : ∀ (u : Nat), (hiD (u / 128)).length + 1 = sizeN u := by
  intro u
  induction u using Nat.strongRecOn with
  | _ u ih =>
    by_cases h : u < 128
    · rw [sizeN_small h, Nat.div_eq_of_lt h, hiD_zero]; rfl
    · rw [sizeN_big (by omega), hiD_pos (by omega), List.length_append, ← ih (u / 128) (by omega)]; rfl
theorem formN_length (u : Nat) : (formN u).length = sizeN u := by unfold formN; rw [List.length_append, ← hiD_length]; rfl
theorem sizeN_pos (u : Nat) : 1 ≤ sizeN u := by rw [sizeN]; split <;> omega
theorem sizeN_le : ∀ (k u : Nat), u < 128 ^ k → 1 ≤ k → sizeN u ≤ k := by
  intro k
  induction k with
  | zero => intro u _ h; omega
  | succ k ih =>
    intro u hu _
    by_cases h : u < 128
    · rw [sizeN_small h]; omega
    · rw [sizeN_big (by omega)]
      have : 1 ≤ k := by
        rcases Nat.eq_zero_or_pos k with h0 | h0
        · subst h0; simp at hu; omega
        · exact h0
      have := ih (u / 128) (by rw [Nat.pow_succ] at hu; omega) this
      omega
theorem sizeN_le10 {u : Nat} (h : u < 18446744073709551616) : sizeN u ≤ 10 := sizeN_le 10 u (by omega) (by omega)

/-- The digits from the k-th one down to the first: what the loop puts. -/
theorem hiD_take : ∀ (s u : Nat), sizeN u = s + 1 → hiD (u / 128) = (List.range s).map fun i => ((u / 128 ^ (s - i) % 128 + 128 : Nat) : Int) := by
  intro s
  induction s with
  | zero =>
    intro u h
    by_cases hu : u < 128
    · rw [Nat.div_eq_of_lt hu, hiD_zero]; rfl
    · rw [sizeN_big (by omega)] at h
      have := sizeN_pos (u / 128); omega
  | succ s ih =>
    intro u h
    have hu : 128 ≤ u := by
      rcases Nat.lt_or_ge u 128 with h' | h'
      · rw [sizeN_small h'] at h; omega
      · exact h'
    rw [sizeN_big hu] at h
    rw [hiD_pos (by omega), ih (u / 128) (by omega), List.range_succ, List.map_append]
    congr 1
    · apply List.map_congr_left
      intro i hi
      have hi := List.mem_range.1 hi
      rw [Nat.div_div_eq_div_mul, show s + 1 - i = (s - i) + 1 by omega, Nat.pow_succ, Nat.mul_comm 128]
    · simp

/-! ### Bits -/
theorem wrap_u64 (a : Int) : IntKind.u64.wrap a = a % 18446744073709551616 := by
  show (if (false && decide (a % 18446744073709551616 ≥ 9223372036854775808)) = true then a % 18446744073709551616 - 18446744073709551616 else a % 18446744073709551616) = _
  rw [if_neg (by simp)]
theorem wrap_u8 (a : Int) : IntKind.u8.wrap a = a % 256 := by
  show (if (false && decide (a % 256 ≥ 128)) = true then a % 256 - 256 else a % 256) = _
  rw [if_neg (by simp)]
theorem or128 (x : Nat) (h : x < 256) : bitsI .or .u8 (x : Int) 128 = ((x % 128 + 128 : Nat) : Int) := by
  have e : bitsI .or .u8 (x : Int) 128 = IntKind.u8.wrap (((BitVec.ofInt 8 (x : Int) ||| BitVec.ofInt 8 128 : BitVec 8).toNat : Nat) : Int) := rfl
  rw [e, wrap_u8, BitVec.ofInt_natCast]
  have key : ∀ y : _root_.Fin 256, ((BitVec.ofNat 8 y.1 ||| BitVec.ofInt 8 128 : BitVec 8).toNat) = y.1 % 128 + 128 := by decide +kernel
  rw [key ⟨x, h⟩]
  simp only
  omega
theorem and127 (x : Nat) (h : x < 256) : bitsI .and .u8 (x : Int) 127 = ((x % 128 : Nat) : Int) := by
  have e : bitsI .and .u8 (x : Int) 127 = IntKind.u8.wrap (((BitVec.ofInt 8 (x : Int) &&& BitVec.ofInt 8 127 : BitVec 8).toNat : Nat) : Int) := rfl
  rw [e, wrap_u8, BitVec.ofInt_natCast]
  have key : ∀ y : _root_.Fin 256, ((BitVec.ofNat 8 y.1 &&& BitVec.ofInt 8 127 : BitVec 8).toNat) = y.1 % 128 := by decide +kernel
  rw [key ⟨x, h⟩]
  simp only
  omega
theorem shrN (u k : Nat) (hk : k ≤ 9) : Int.fdiv (u : Int) (2 ^ min (Int.toNat (7 * (k : Int))) IntKind.u64.bits) = ((u / 128 ^ k : Nat) : Int) := by
  have e : (7 * (k : Int)).toNat = 7 * k := by omega
  have e2 : min (7 * k) IntKind.u64.bits = 7 * k := by show min (7 * k) 64 = 7 * k; omega
  rw [e, e2, show (2 : Int) ^ (7 * k) = ((128 ^ k : Nat) : Int) by rw [Int.pow_mul]; norm_cast]
  rw [Int.fdiv_eq_ediv_of_nonneg _ (Int.natCast_nonneg _)]
  rfl
/-- What the loop of Int puts. -/
theorem digit_hi (u k : Nat) (hk : k ≤ 9) : bitsI .or .u8 (IntKind.u8.wrap (Int.fdiv (u : Int) (2 ^ min (Int.toNat (7 * (k : Int))) IntKind.u64.bits))) 128 = ((u / 128 ^ k % 128 + 128 : Nat) : Int) := by
  rw [shrN u k hk, wrap_u8]
  rw [show ((u / 128 ^ k : Nat) : Int) % 256 = ((u / 128 ^ k % 256 : Nat) : Int) by omega]
  rw [or128 _ (by omega)]
  congr 2
  omega
theorem digit_lo (u : Nat) : bitsI .and .u8 (IntKind.u8.wrap (u : Int)) 127 = ((u % 128 : Nat) : Int) := by
  rw [wrap_u8, show (u : Int) % 256 = ((u % 256 : Nat) : Int) by omega, and127 _ (by omega)]
  congr 1
  omega

/-! ### The first number of bytes -/
def numberN (u : Nat) : Int := if u % 2 = 0 then ((u / 2 : Nat) : Int) else -((u / 2 : Nat) : Int) - 1
def firstG (u i : Nat) : List Int → Int × Nat × Int
  | [] => (0, 0, 10)
  | c :: r => if (i = 0 ∧ c = 128) ∨ u > 144115188075855871 then (0, 0, 11) else if c < 128 then (numberN (u * 128 + (c % 128).toNat), i + 1, 0) else firstG (u * 128 + (c % 128).toNat) (i + 1) r
def firstP (b : List Int) : Int × Nat × Int := firstG 0 0 b
def Byt (b : List Int) : Prop := ∀ x ∈ b, 0 ≤ x ∧ x ≤ 255
theorem Byt.at {b : List Int} (h : Byt b) {i : Nat} (hi : i < b.length) : 0 ≤ b.getD i 0 ∧ b.getD i 0 ≤ 255 := by
  rw [List.getD_eq_getElem?_getD, List.getElem?_eq_getElem hi]
  exact h _ (List.getElem_mem hi)
theorem drop_at {b : List Int} {i : Nat} (hi : i < b.length) : b.drop i = b.getD i 0 :: b.drop (i + 1) := by
  rw [List.drop_eq_getElem_cons hi, List.getD_eq_getElem?_getD, List.getElem?_eq_getElem hi]; rfl
theorem shl7or (u : Nat) (c : Int) (hu : u ≤ 144115188075855871) (h0 : 0 ≤ c) (h1 : c ≤ 255) :
    bitsI .or .u64 (IntKind.u64.wrap ((u : Int) * 2 ^ min (Int.toNat 7) IntKind.u64.bits)) (bitsI .and .u8 c 127) = ((u * 128 + (c % 128).toNat : Nat) : Int) := by
  obtain ⟨x, rfl⟩ := Int.eq_ofNat_of_zero_le h0
  rw [and127 x (by omega), show (2 : Int) ^ min (Int.toNat 7) IntKind.u64.bits = 128 by decide, wrap_u64]
  rw [show (u : Int) * 128 % 18446744073709551616 = ((u * 128 : Nat) : Int) by omega]
  have e : ∀ a b : Nat, bitsI .or .u64 (a : Int) (b : Int) = IntKind.u64.wrap (((BitVec.ofInt 64 (a : Int) ||| BitVec.ofInt 64 (b : Int) : BitVec 64).toNat : Nat) : Int) := fun _ _ => rfl
  rw [e, wrap_u64, BitVec.ofInt_natCast, BitVec.ofInt_natCast, BitVec.toNat_or, BitVec.toNat_ofNat, BitVec.toNat_ofNat]
  rw [Nat.mod_eq_of_lt (by omega), Nat.mod_eq_of_lt (by omega)]
  have hor : u * 128 ||| x % 128 = u * 128 + x % 128 := by
    rw [show u * 128 = 2 ^ 7 * u by omega]
    rw [← Nat.two_pow_add_eq_or_of_lt (by omega : x % 128 < 2 ^ 7)]
  rw [hor]
  have : ((x : Int) % 128).toNat = x % 128 := by omega
  rw [this]
  omega
theorem bitsI_conv_u8 (c : Int) (h0 : 0 ≤ c) (h1 : c ≤ 255) : 0 ≤ bitsI .and .u8 c 127 ∧ bitsI .and .u8 c 127 ≤ 127 := by
  obtain ⟨x, rfl⟩ := Int.eq_ofNat_of_zero_le h0
  rw [and127 x (by omega)]; omega
theorem signed_eq (u : Nat) (h : u < 18446744073709551616) :
    bitsI .xor .i64 (IntKind.i64.wrap (Int.fdiv (u : Int) (2 ^ min (Int.toNat 1) IntKind.u64.bits))) (IntKind.i64.wrap (0 - IntKind.i64.wrap (bitsI .and .u64 (u : Int) 1))) = numberN u := by
  have e1 : (2 : Int) ^ min (Int.toNat 1) IntKind.u64.bits = 2 := by decide
  rw [e1, Int.fdiv_eq_ediv_of_nonneg _ (by decide), show (u : Int) / 2 = ((u / 2 : Nat) : Int) by omega]
  rw [wrap_id (k := .i64) (a := ((u / 2 : Nat) : Int)) (by simp only [loK]; omega) (by simp only [hiK]; omega)]
  have ea : bitsI .and .u64 (u : Int) 1 = ((u % 2 : Nat) : Int) := by
    have e : bitsI .and .u64 (u : Int) 1 = IntKind.u64.wrap (((BitVec.ofInt 64 (u : Int) &&& BitVec.ofInt 64 1 : BitVec 64).toNat : Nat) : Int) := rfl
    rw [e, wrap_u64, BitVec.ofInt_natCast, BitVec.toNat_and, BitVec.toNat_ofNat, Nat.mod_eq_of_lt h]
    have : (BitVec.ofInt 64 1).toNat = 1 := by decide
    rw [this, Nat.and_one_is_mod]; omega
  rw [ea, wrap_id (k := .i64) (a := ((u % 2 : Nat) : Int)) (by simp only [loK]; omega) (by simp only [hiK]; omega)]
  rw [wrap_id (k := .i64) (a := 0 - ((u % 2 : Nat) : Int)) (by simp only [loK]; omega) (by simp only [hiK]; omega)]
  have ex : ∀ x y : Int, bitsI .xor .i64 x y = IntKind.i64.wrap (((BitVec.ofInt 64 x ^^^ BitVec.ofInt 64 y : BitVec 64).toNat : Nat) : Int) := fun _ _ => rfl
  unfold numberN
  rcases Nat.mod_two_eq_zero_or_one u with h0 | h0
  · rw [ex, h0, if_pos rfl, show (0 : Int) - ((0 : Nat) : Int) = ((0 : Nat) : Int) by rfl, BitVec.ofInt_natCast, BitVec.ofInt_natCast]
    simp only [BitVec.xor_zero, BitVec.toNat_ofNat]
    rw [Nat.mod_eq_of_lt (by omega), wrap_id (by simp only [loK]; omega) (by simp only [hiK]; omega)]
  · rw [ex, h0, if_neg (by decide), BitVec.ofInt_natCast, show BitVec.ofInt 64 (0 - ((1 : Nat) : Int)) = BitVec.allOnes 64 by decide, bv_xor_ones _ (by omega)]
    have hw : ∀ a : Int, IntKind.i64.wrap a = if a % 18446744073709551616 ≥ 9223372036854775808 then a % 18446744073709551616 - 18446744073709551616 else a % 18446744073709551616 := by
      intro a
      show (if (true && decide (a % 18446744073709551616 ≥ 9223372036854775808)) = true then _ else _) = _
      simp only [Bool.true_and, decide_eq_true_eq]
      rfl
    rw [hw, if_pos (by omega)]
    omega
theorem numberN_bd (u : Nat) (h : u < 18446744073709551616) : -9223372036854775808 ≤ numberN u ∧ numberN u ≤ 9223372036854775807 := by
  unfold numberN; split <;> omega
end Go.Abs

/- Plain: what is read out of bytes. -/
set_option linter.unusedVariables false
set_option linter.unusedSimpArgs false
namespace Go.Abs
/-- The length of all bytes that are taken. -/
abbrev L40 (b : List Int) : Prop := b.length ≤ 1099511627776
abbrev bys (b : List Int) : D := .sl none (ints .u8 b) .ro
abbrev vi (n : Int) : D := .val (.int .i64 n)
abbrev vb (b : Bool) : D := .val (.bool b)
structure Up where
  b : List Int
  e : Int
/-- The box of an Unpacker; of the reference's. -/
abbrev Up.z (u : Up) : List D := [bys u.b, vi u.e, vb true]
abbrev Up.rz (u : Up) : List D := [bys u.b, vi u.e]
abbrev Up.ok (u : Up) : Prop := Byt u.b ∧ L40 u.b
/-- The reference keeps no bytes behind an error. -/
def Up.clr (u : Up) : Up := if u.e = 0 then u else ⟨[], u.e⟩
def Up.spoil (u : Up) (x : Int) : Up := if u.e = 0 then ⟨u.b, x⟩ else u
def Up.int (u : Up) (lo hi : Int) : Int × Up :=
  if u.e ≠ 0 then (0, u)
  else if (firstP u.b).2.2 = 0 ∧ ((firstP u.b).1 < lo ∨ (firstP u.b).1 > hi) then (0, ⟨u.b, 11⟩)
  else if (firstP u.b).2.2 ≠ 0 then (0, ⟨u.b, (firstP u.b).2.2⟩)
  else ((firstP u.b).1, ⟨u.b.drop (firstP u.b).2.1, 0⟩)
def Up.str (u : Up) (most : Int) : List Int × Up :=
  if (u.int 0 (max 0 most)).2.e ≠ 0 then ([], (u.int 0 (max 0 most)).2)
  else if (u.int 0 (max 0 most)).1 > (u.int 0 (max 0 most)).2.b.length then ([], ⟨(u.int 0 (max 0 most)).2.b, 10⟩)
  else ((u.int 0 (max 0 most)).2.b.take (u.int 0 (max 0 most)).1.toNat, ⟨(u.int 0 (max 0 most)).2.b.drop (u.int 0 (max 0 most)).1.toNat, 0⟩)
def Up.rest (u : Up) : Int := if u.e = 0 then u.b.length else 0
def Up.close (u : Up) : Int := if u.e ≠ 0 then u.e else if u.b.length > 0 then 12 else 0

theorem firstG_cons (u i : Nat) (c : Int) (r : List Int) : firstG u i (c :: r) = if (i = 0 ∧ c = 128) ∨ u > 144115188075855871 then (0, 0, 11) else if c < 128 then (numberN (u * 128 + (c % 128).toNat), i + 1, 0) else firstG (u * 128 + (c % 128).toNat) (i + 1) r := by rw [firstG]
theorem firstG_bd : ∀ (r : List Int) (u i : Nat), (firstG u i r).2.2 = 0 → i + 1 ≤ (firstG u i r).2.1 ∧ (firstG u i r).2.1 ≤ i + r.length
  | [], u, i, h => by simp [firstG] at h
  | c :: r, u, i, h => by
    rw [firstG_cons] at h ⊢
    split at h
    · simp at h
    · rename_i h1
      rw [if_neg h1]
      split at h
      · rename_i h2; rw [if_pos h2]; simp
      · rename_i h2
        rw [if_neg h2]
        have := firstG_bd r _ _ h
        simp only [List.length_cons]
        omega
theorem firstG_err : ∀ (r : List Int) (u i : Nat), (firstG u i r).2.2 ≠ 0 → (firstG u i r).1 = 0 ∧ (firstG u i r).2.1 = 0
  | [], u, i, h => by simp [firstG]
  | c :: r, u, i, h => by
    rw [firstG_cons] at h ⊢
    split at h
    · rename_i h1; rw [if_pos h1]; simp
    · rename_i h1
      rw [if_neg h1]
      split at h
      · simp at h
      · rename_i h2; rw [if_neg h2]; exact firstG_err r _ _ h
theorem firstP_bd {b : List Int} (h : (firstP b).2.2 = 0) : 1 ≤ (firstP b).2.1 ∧ (firstP b).2.1 ≤ b.length := by
  have := firstG_bd b 0 0 h
  unfold firstP; omega
theorem firstG_num : ∀ (r : List Int) (u i : Nat), Byt r → u < 18446744073709551616 → -9223372036854775808 ≤ (firstG u i r).1 ∧ (firstG u i r).1 ≤ 9223372036854775807
  | [], u, i, _, _ => by simp [firstG]
  | c :: r, u, i, hb, hu => by
    have hc := hb c (by simp)
    rw [firstG_cons]
    split
    · simp
    · rename_i h1
      have hu2 : u * 128 + (c % 128).toNat < 18446744073709551616 := by omega
      split
      · exact numberN_bd _ hu2
      · exact firstG_num r _ _ (fun x hx => hb x (by simp [hx])) hu2
theorem firstP_num {b : List Int} (h : Byt b) : -9223372036854775808 ≤ (firstP b).1 ∧ (firstP b).1 ≤ 9223372036854775807 := firstG_num b 0 0 h (by omega)
theorem Byt.drop {b : List Int} (h : Byt b) (n : Nat) : Byt (b.drop n) := fun x hx => h x (List.mem_of_mem_drop hx)
theorem Byt.take {b : List Int} (h : Byt b) (n : Nat) : Byt (b.take n) := fun x hx => h x (List.mem_of_mem_take hx)
theorem Up.ok.drop {b : List Int} {e e' : Int} {n : Nat} (h : Up.ok ⟨b, e⟩) : Up.ok ⟨b.drop n, e'⟩ := ⟨h.1.drop n, by have := h.2; simp only [L40, List.length_drop] at *; omega⟩
theorem Up.int_ok {u : Up} (h : u.ok) (lo hi : Int) : (u.int lo hi).2.ok := by
  unfold Up.int
  split
  · exact h
  · split
    · exact h
    · split
      · exact h
      · exact Up.ok.drop (b := u.b) (e := u.e) h
theorem Up.str_ok {u : Up} (h : u.ok) (m : Int) : (u.str m).2.ok ∧ Byt (u.str m).1 ∧ L40 (u.str m).1 := by
  have h1 := u.int_ok h 0 (max 0 m)
  unfold Up.str
  split
  · exact ⟨h1, (fun x hx => by cases hx), by simp [L40]⟩
  · split
    · exact ⟨h1, (fun x hx => by cases hx), by simp [L40]⟩
    · refine ⟨Up.ok.drop (b := (u.int 0 (max 0 m)).2.b) (e := 0) h1, h1.1.take _, ?_⟩
      have := h1.2
      simp only [L40, List.length_take] at *; omega
theorem Up.spoil_ok {u : Up} (h : u.ok) (x : Int) : (u.spoil x).ok := by unfold Up.spoil; split <;> exact h
theorem Up.clr_e (u : Up) : u.clr.e = u.e := by unfold Up.clr; split <;> rfl
theorem ren_lits {ρ σ : Nat → Nat → Prop} {nl : Option Bool} {k : IntKind} {l : List Int} {xs : List (List D)} {c : Cap} (h : xs = ints k l) : Ren ρ σ (.sl nl xs c) (.sl none (ints k l) .ro) := by subst h; exact ren_ints
/-- One thing that is asked. -/
structure Ak1 where
  d : Int
  lo : Int
  hi : Int
  n : Int
  e : Int
abbrev Ak1.z (a : Ak1) : List D := [vi a.d, vi a.lo, vi a.hi, vi a.n, vi a.e]
def Up.ask (u : Up) (a : Ak1) : Up := if a.d = 0 then (u.int a.lo a.hi).2 else if a.d = 1 then (u.str a.n).2 else if a.d = 2 then (u.int 0 1).2 else u.spoil a.e
theorem hiD_byt : ∀ (v : Nat), Byt (hiD v) := by
  intro v
  induction v using Nat.strongRecOn with
  | _ v ih =>
    by_cases h : v = 0
    · subst h; rw [hiD_zero]; intro x hx; cases hx
    · rw [hiD_pos h]
      intro x hx
      rcases List.mem_append.1 hx with hx | hx
      · exact ih (v / 128) (by omega) x hx
      · simp only [List.mem_cons, List.not_mem_nil, or_false] at hx
        subst hx; omega
theorem Byt.append {a b : List Int} (h : Byt a) (k : Byt b) : Byt (a ++ b) := fun x hx => by
  rcases List.mem_append.1 hx with hx | hx
  · exact h x hx
  · exact k x hx
theorem form_byt (n : Int) : Byt (form n) := (hiD_byt _).append fun x hx => by
  simp only [List.mem_cons, List.not_mem_nil, or_false] at hx
  subst hx; omega
theorem forms_byt : ∀ (l : List Int), Byt (forms l)
  | [] => fun x hx => by simp [forms] at hx
  | n :: l => by
    have : forms (n :: l) = form n ++ forms l := by simp [forms]
    rw [this]
    exact (form_byt n).append (forms_byt l)
theorem firstG_hiD : ∀ (v : Nat) (t : List Int), v < 144115188075855872 → firstG 0 0 (hiD v ++ t) = firstG v (hiD v).length t := by
  intro v
  induction v using Nat.strongRecOn with
  | _ v ih =>
    intro t hv
    by_cases h : v = 0
    · subst h; rw [hiD_zero]; rfl
    · rw [hiD_pos h, List.append_assoc, ih (v / 128) (by omega) _ (by omega)]
      simp only [List.cons_append, List.nil_append, List.length_append, List.length_cons, List.length_nil]
      rw [firstG_cons]
      have hi : ¬ (((hiD (v / 128)).length = 0 ∧ ((v % 128 + 128 : Nat) : Int) = 128) ∨ v / 128 > 144115188075855871) := by
        rintro (⟨h1, h2⟩ | h1)
        · have h3 : v / 128 = 0 := by
            by_cases h4 : v / 128 = 0
            · exact h4
            · rw [hiD_pos h4, List.length_append] at h1; simp at h1
          omega
        · omega
      rw [if_neg hi, if_neg (by omega)]
      congr 1
      omega
theorem numberN_natN {n : Int} (h0 : -9223372036854775808 ≤ n) (h1 : n ≤ 9223372036854775807) : numberN (natN n) = n := by
  unfold numberN natN
  split <;> split <;> omega
theorem firstP_form {n : Int} (h0 : -9223372036854775808 ≤ n) (h1 : n ≤ 9223372036854775807) (r : List Int) : firstP (form n ++ r) = (n, (form n).length, 0) := by
  have hN := natN_lt h0 h1
  unfold firstP form formN
  rw [List.append_assoc, firstG_hiD _ _ (by omega)]
  simp only [List.cons_append, List.nil_append, List.length_append, List.length_cons, List.length_nil]
  rw [firstG_cons, if_neg (by omega), if_pos (by omega)]
  have : natN n / 128 * 128 + ((((natN n % 128 : Nat) : Int) % 128)).toNat = natN n := by omega
  rw [this, numberN_natN h0 h1]
theorem Up.int_form {n lo hi : Int} (h0 : -9223372036854775808 ≤ n) (h1 : n ≤ 9223372036854775807) (hl : lo ≤ n) (hh : n ≤ hi) (r : List Int) : Up.int ⟨form n ++ r, 0⟩ lo hi = (n, ⟨r, 0⟩) := by
  have e := firstP_form h0 h1 r
  unfold Up.int
  rw [e]
  simp only
  rw [if_neg (by simp), if_neg (by simp; omega), if_neg (by simp)]
  simp
theorem forms_one (n : Int) : forms [n] = form n := by simp [forms]
theorem Up.str_form {x : List Int} (hx : x.length ≤ 1099511627776) {m : Int} (hm : (x.length : Int) ≤ m) (r : List Int) : Up.str ⟨form (x.length : Int) ++ (x ++ r), 0⟩ m = (x, ⟨r, 0⟩) := by
  have e := Up.int_form (n := (x.length : Int)) (lo := 0) (hi := max 0 m) (by omega) (by omega) (by omega) (by omega) (x ++ r)
  unfold Up.str
  rw [e]
  simp only
  rw [if_neg (by simp), if_neg (by simp; omega)]
  simp
theorem renU {ρ σ : Nat → Nat → Prop} {nl : Option Bool} {c : Cap} {b b' : List Int} {e e' : Int} (h1 : b = b') (h2 : e = e') : RenAll ρ σ [.sl nl (ints .u8 b) c, vi e, vb true] (Up.z ⟨b', e'⟩) := by
  subst h1 h2
  exact .cons ren_ints (.cons (.lf (.val _)) (.cons (.lf (.val _)) .nil))
section
variable {P : Program} {N : Nat} {ops : Array Oper} {l : List Oper} {Q : Exit → Tm → List Ob → Prop} {tm : Tm} {S : List Ob} {t : Tmp} {ty : TypeId} {pos : String} {after : Array Edge}
theorem Rep.toRo {g : G} {w : World} {v : Value} {nl : Option Bool} {xs : List (List D)} {c : Cap} (r : Rep g w v (.sl nl xs c)) : Rep g w v (.sl none xs .ro) := Rep.ro_ r (fun _ _ => rfl)
end
end Go.Abs

/- Plain: numbers read one behind the other. -/
set_option linter.unusedVariables false
namespace Go.Abs
/-- Any number. -/
def Up.w (u : Up) : Int × Up := u.int (-9223372036854775808) 9223372036854775807
def Up.flag (u : Up) : Int × Up := u.int 0 1
theorem Up.w_ok {u : Up} (h : u.ok) : u.w.2.ok := Up.int_ok h _ _
theorem Up.w_form {n : Int} (h0 : -9223372036854775808 ≤ n) (h1 : n ≤ 9223372036854775807) (r : List Int) : Up.w ⟨form n ++ r, 0⟩ = (n, ⟨r, 0⟩) := Up.int_form h0 h1 h0 h1 r
theorem Up.flag_form {n : Int} (h0 : 0 ≤ n) (h1 : n ≤ 1) (r : List Int) : Up.flag ⟨form n ++ r, 0⟩ = (n, ⟨r, 0⟩) := Up.int_form (by omega) (by omega) h0 h1 r
theorem forms_len' (l : List Int) (hl : ∀ n ∈ l, -9223372036854775808 ≤ n ∧ n ≤ 9223372036854775807) : (forms l).length ≤ 10 * l.length := by
  induction l with
  | nil => simp [forms]
  | cons n l ih =>
    have h := hl n (by simp)
    have := ih (fun m hm => hl m (by simp [hm]))
    have e : (form n).length ≤ 10 := by unfold form; rw [formN_length]; exact sizeN_le10 (natN_lt h.1 h.2)
    simp only [forms, List.flatMap_cons, List.length_append, List.length_cons] at *
    omega
end Go.Abs

/- Plain: what is read has the form that was read. -/
set_option linter.unusedVariables false
namespace Go.Abs
theorem natN_numberN (w : Nat) : natN (numberN w) = w := by
  unfold natN numberN
  split <;> split <;> omega
theorem hiD_step {u : Nat} {c : Int} (hc : 128 ≤ c) (hc2 : c ≤ 255) (hne : u * 128 + (c % 128).toNat ≠ 0) : hiD (u * 128 + (c % 128).toNat) = hiD u ++ [c] := by
  rw [hiD_pos hne]
  have h1 : (u * 128 + (c % 128).toNat) / 128 = u := by omega
  have h2 : (((u * 128 + (c % 128).toNat) % 128 + 128 : Nat) : Int) = c := by omega
  rw [h1, h2]
theorem firstG_inv : ∀ (r : List Int) (u i : Nat), Byt r → (i = 0 → u = 0) → (i ≠ 0 → u ≠ 0) → (firstG u i r).2.2 = 0 → ∃ w, (firstG u i r).1 = numberN w ∧ hiD u ++ r.take ((firstG u i r).2.1 - i) = formN w
  | [], u, i, _, _, _, h => by simp [firstG] at h
  | c :: r, u, i, hb, h0, h1, h => by
    have hc := hb c (by simp)
    rw [firstG_cons] at h ⊢
    split at h
    · simp at h
    · rename_i h2
      rw [if_neg h2]
      split at h
      · rename_i h3
        rw [if_pos h3]
        refine ⟨_, rfl, ?_⟩
        simp only [show i + 1 - i = 1 by omega]
        unfold formN
        rw [show (u * 128 + (c % 128).toNat) / 128 = u by omega]
        simp
        omega
      · rename_i h3
        rw [if_neg h3]
        have hne : u * 128 + (c % 128).toNat ≠ 0 := by
          by_cases hi : i = 0
          · have : c ≠ 128 := fun e => h2 (.inl ⟨hi, e⟩)
            omega
          · have := h1 hi; omega
        obtain ⟨w, e1, e2⟩ := firstG_inv r _ (i + 1) (fun x hx => hb x (by simp [hx])) (by omega) (fun _ => hne) h
        refine ⟨w, e1, ?_⟩
        have hbd := (firstG_bd r _ _ h).1
        rw [← e2, hiD_step (by omega) hc.2 hne, show (firstG (u * 128 + (c % 128).toNat) (i + 1) r).2.1 - i = (firstG (u * 128 + (c % 128).toNat) (i + 1) r).2.1 - (i + 1) + 1 by omega]
        simp
theorem firstP_inv {b : List Int} (hb : Byt b) (h : (firstP b).2.2 = 0) : b = form (firstP b).1 ++ b.drop (firstP b).2.1 := by
  obtain ⟨w, e1, e2⟩ := firstG_inv b 0 0 hb (fun _ => rfl) (fun h => absurd rfl h) h
  have e3 : form (firstP b).1 = b.take (firstP b).2.1 := by
    unfold firstP form
    rw [e1, natN_numberN, ← e2, hiD_zero]; rfl
  rw [e3, List.take_append_drop]
end Go.Abs

/- What a lease's calls answer: plain. -/
namespace Go.Abs
structure Ls where
  o : Int
  la : Int
  e : Int
  c : Int
  u : Int
  s : Bool
abbrev lz (l : Ls) : D := .agg [.val (.int .i64 l.o), .val (.int .i64 l.la), .val (.int .i64 l.e), .val (.int .i64 l.c), .val (.int .i64 l.u), .val (.bool l.s)]
namespace Ls
def reg (n : Int) : Bool := decide (n ≥ 0) && decide (n < 2)
def num (n : Int) : Bool := decide (n ≥ 0) && decide (n ≤ 9007199254740992)
def bad1 (l : Ls) : Bool := (l.o != -1 && !reg l.o || l.la != -1 && !reg l.la) || !num l.e || !num l.c || !num l.u
def bad2 (l : Ls) : Bool := ((l.o != -1 && l.o != l.la || l.la == -1 && (l.e != 0 || l.s)) || l.la != -1 && l.e == 0) || l.o == -1 && decide (l.u > l.c)
def chk (l : Ls) : Int := if l.bad1 = true then 1 else if l.bad2 = true then 1 else 0
def held (l : Ls) : Bool := (l.chk == 0 && l.o != -1) && decide (l.u > l.c)
def more (a b : Int) : Int := if b > 9007199254740992 - a then 9007199254740992 else a + b
def new : Ls := ⟨-1, -1, 0, 0, 0, false⟩
def grant (l : Ls) (r : Int) : Ls := ⟨r, r, l.e + 1, l.c, more l.c 16, l.s && l.la == r⟩
def acq (l : Ls) (r : Int) : Ls × Int × Int :=
  if (l.chk != 0 || !reg r) = true then (l, 0, 1) else if (l.held && l.o != r) = true then (l, 0, 130) else if (l.s && l.la != r) = true then (l, 0, 131) else if (l.e == 9007199254740992) = true then (l, 0, 6) else (l.grant r, l.e + 1, 0)
def mine (l : Ls) (r ep : Int) : Int := if (l.chk != 0 || !reg r) = true then 1 else if (l.o != r || l.e != ep) = true then 132 else 0
def renew (l : Ls) (r ep : Int) : Ls × Int := if l.mine r ep = 0 then (⟨l.o, l.la, l.e, l.c, more l.c 16, l.s⟩, 0) else (l, l.mine r ep)
def rel (l : Ls) (r ep : Int) : Ls × Int := if l.mine r ep = 0 then (⟨-1, l.la, l.e, l.c, l.c, l.s⟩, 0) else (l, l.mine r ep)
def alone (l : Ls) (r ep : Int) (b : Bool) : Ls × Int := if l.mine r ep = 0 then (⟨l.o, l.la, l.e, l.c, l.u, b⟩, 0) else (l, l.mine r ep)
def tra (l : Ls) (r ep to : Int) : Ls × Int × Int :=
  if (!reg to || to == r) = true then (l, 0, 1) else if l.mine r ep ≠ 0 then (l, 0, l.mine r ep) else if l.s = true then (l, 0, 131) else if (l.e == 9007199254740992) = true then (l, 0, 6) else (l.grant to, l.e + 1, 0)
def tick (l : Ls) (n : Int) : Ls := if (l.chk == 0 && decide (n > 0)) = true then ⟨l.o, l.la, l.e, more l.c n, l.u, l.s⟩ else l
end Ls
/-- One call that is asked for. -/
structure Ak where
  d : Int
  r : Int
  e : Int
  own : Bool
  t : Int
  n : Int
  s : Bool
abbrev az (a : Ak) : List D := [.val (.int .i64 a.d), .val (.int .i64 a.r), .val (.int .i64 a.e), .val (.bool a.own), .val (.int .i64 a.t), .val (.int .i64 a.n), .val (.bool a.s)]
namespace Ls
def ep (l : Ls) (a : Ak) : Int := if a.own = true then l.e else a.e
def ask (l : Ls) (a : Ak) : Ls × Int × Int :=
  if a.d = 1 then l.acq a.r else if a.d = 2 then ((l.renew a.r (l.ep a)).1, 0, (l.renew a.r (l.ep a)).2) else if a.d = 3 then ((l.rel a.r (l.ep a)).1, 0, (l.rel a.r (l.ep a)).2)
  else if a.d = 4 then l.tra a.r (l.ep a) a.t else if a.d = 5 then ((l.alone a.r (l.ep a) a.s).1, 0, (l.alone a.r (l.ep a) a.s).2) else (l.tick a.n, 0, 0)
end Ls
end Go.Abs

/- What an owner's calls answer: plain. -/
namespace Go.Abs
structure Sd where
  e : Int
  y : Int
  a : Int
  n : Int
abbrev sz (s : Sd) : D := .agg [.val (.int .i64 s.e), .val (.int .i64 s.y), .val (.int .i64 s.a), .val (.int .i64 s.n)]
namespace Sd
def chk (s : Sd) : Int := if s.a < 0 ∨ s.n < s.a ∨ s.y < s.n ∨ s.e < s.y ∨ s.e > 9007199254740992 then 1 else 0
def joined (s : Sd) (c : Int) : Sd := if s.chk = 0 ∧ c ≥ 0 ∧ c ≤ s.y then ⟨s.e, s.y, c, c⟩ else s
def many (s : Sd) : Int := if s.y - s.n < 8 then s.y - s.n else 8
def next (s : Sd) : Int × Int × Sd := if s.chk = 0 then (s.n, s.many, ⟨s.e, s.y, s.a, s.n + s.many⟩) else (0, 0, s)
def back (s : Sd) : Sd := if s.chk = 0 then ⟨s.e, s.y, s.a, s.a⟩ else s
def acked (s : Sd) (u : Int) : Sd := if s.chk = 0 ∧ u > s.a ∧ u ≤ s.y then ⟨s.e, s.y, u, if s.n < u then u else s.n⟩ else s
def grown (s : Sd) (e y : Int) : Sd := if s.chk = 0 ∧ y ≥ s.y ∧ e ≥ y ∧ e ≥ s.e ∧ e ≤ 9007199254740992 then ⟨e, y, s.a, s.n⟩ else s
def fin (s : Sd) : Bool := s.chk == 0 && s.a == s.e
theorem ok {s : Sd} (h : s.chk = 0) : 0 ≤ s.a ∧ s.a ≤ s.n ∧ s.n ≤ s.y ∧ s.y ≤ s.e ∧ s.e ≤ 9007199254740992 := by
  unfold chk at h
  split at h
  · cases h
  · omega
end Sd
theorem ren_eqints {ρ σ : Nat → Nat → Prop} {nl : Option Bool} {xs : List (List D)} {k : IntKind} {l : List Int} {c : Cap} (h : xs = ints k l) : Ren ρ σ (.sl nl xs c) (.sl none (ints k l) .ro) := by subst h; exact ren_ints
structure En where
  e : Int
  r : Int
  k : Int
  v : Int
abbrev ez (x : En) : List D := [.val (.int .i64 x.e), .val (.int .i64 x.r), .val (.int .i64 x.k), .val (.int .i64 x.v)]
namespace En
def chk (x : En) : Int := if x.e < 1 ∨ x.e > 9007199254740992 ∨ x.r < 0 ∨ x.r ≥ 2 then 1 else 0
end En
def chkB (p q : Int) (l : List En) : Int := if p < 0 ∨ p ≥ 4 ∨ q < 0 ∨ q > 9007199254740992 ∨ (l.length : Int) < 1 ∨ (l.length : Int) > 8 ∨ (l.length : Int) > 9007199254740992 - q then 1 else if l.any (fun x => x.chk != 0) = true then 1 else 0
theorem En.chk_one {x : En} (h : x.chk ≠ 0) : x.chk = 1 := by unfold En.chk at *; split at h <;> simp_all
theorem any_yes {l : List En} {i : Nat} {x : En} (hx : l[i]? = some x) (h : x.chk ≠ 0) : l.any (fun x => x.chk != 0) = true := by
  rw [List.any_eq_true]; exact ⟨x, List.mem_of_getElem? hx, by simpa using h⟩
theorem any_no {l : List En} (h : ∀ (j : Nat) (x : En), j < l.length → l[j]? = some x → x.chk = 0) : l.any (fun x => x.chk != 0) = false := by
  rw [List.any_eq_false]
  intro x hx
  obtain ⟨j, hj⟩ := List.getElem?_of_mem hx
  have := h j x (List.getElem?_eq_some_iff.1 hj).1 hj
  simp [this]
theorem lf_bundle {p q : Int} {l : List En} : ∀ d ∈ [D.val (.int .i64 p), D.val (.int .i64 q), .sl none (l.map ez) .ro], LF d := lf_cons (.val _) (lf_cons (.val _) (lf_cons (lf_map (fun _ => rfl) (.inl rfl)) lf_nil))
def accept (e p q : Int) (l : List En) : List En × Int := if chkB p q l ≠ 0 then ([], chkB p q l) else if e < 0 ∨ e > 9007199254740992 then ([], 1) else if q > e then ([], 210) else if q < e then ([], 7) else (l, 0)
theorem ren_two {ρ σ : Nat → Nat → Prop} {a b a' b' : D} (h : Ren ρ σ a a') (k : Ren ρ σ b b') : ∀ (i : Nat) (x y : D), [a, b][i]? = some x → [a', b'][i]? = some y → Ren ρ σ x y := by
  intro i x y h1 h2
  match i with
  | 0 => simp at h1 h2; subst h1 h2; exact h
  | 1 => simp at h1 h2; subst h1 h2; exact k
  | i + 2 => simp at h1
/-- Do they rise? -/
def rises (l : List Int) : Bool := (List.range (l.length - 1)).all fun i => decide (l.getD i 0 ≤ l.getD (i + 1) 0)
end Go.Abs

/- Plain: a lease's bytes. -/
set_option linter.unusedVariables false
namespace Go.Abs
namespace Ls
def six (l : Ls) : List Int := [l.o, l.la, l.e, l.c, l.u, if l.s = true then 1 else 0]
def bytes (l : Ls) : List Int := if l.chk ≠ 0 then [] else forms l.six
theorem six_i64 {l : Ls} (h : l.chk = 0) : ∀ n ∈ l.six, -9223372036854775808 ≤ n ∧ n ≤ 9223372036854775807 := by
  have hb : l.bad1 = false := by
    unfold chk at h
    split at h
    · cases h
    · rename_i h1; simpa using h1
  simp [bad1, num, reg] at hb
  intro n hn
  simp only [six, List.mem_cons, List.not_mem_nil, or_false] at hn
  rcases hn with rfl | rfl | rfl | rfl | rfl | rfl
  all_goals first | omega | (split <;> omega)
def z : Ls := ⟨0, 0, 0, 0, 0, false⟩
def parse (b : List Int) : Ls × Int :=
  let r1 := Up.w ⟨b, 0⟩; let r2 := r1.2.w; let r3 := r2.2.w; let r4 := r3.2.w; let r5 := r4.2.w; let r6 := r5.2.flag
  if r6.2.close ≠ 0 then (z, r6.2.close) else if (⟨r1.1, r2.1, r3.1, r4.1, r5.1, r6.1 == 1⟩ : Ls).chk ≠ 0 then (z, (⟨r1.1, r2.1, r3.1, r4.1, r5.1, r6.1 == 1⟩ : Ls).chk) else (⟨r1.1, r2.1, r3.1, r4.1, r5.1, r6.1 == 1⟩, 0)
theorem bytes_byt (l : Ls) : Byt l.bytes := by
  unfold bytes; split
  · intro x hx; cases hx
  · exact forms_byt _
theorem bytes_l40 (l : Ls) : L40 l.bytes := by
  unfold bytes; split
  · simp [L40]
  · rename_i h
    have h6 := six_i64 (l := l) (by simpa using h)
    have := forms_len' l.six h6
    simp only [L40, six, List.length_cons, List.length_nil] at *
    omega
theorem parse_bytes {l : Ls} (h : l.chk = 0) : parse l.bytes = (l, 0) := by
  have h6 := six_i64 h
  simp only [six, List.mem_cons, List.not_mem_nil, or_false, forall_eq_or_imp, forall_eq] at h6
  obtain ⟨h1, h2, h3, h4, h5, h7⟩ := h6
  have hb : l.bytes = form l.o ++ (form l.la ++ (form l.e ++ (form l.c ++ (form l.u ++ (form (if l.s = true then 1 else 0) ++ []))))) := by
    unfold bytes; rw [if_neg (by simp [h])]; simp [six, forms]
  have hs : (0 : Int) ≤ (if l.s = true then 1 else 0) ∧ (if l.s = true then 1 else 0 : Int) ≤ 1 := by split <;> omega
  have hs2 : ((if l.s = true then 1 else 0 : Int) == 1) = l.s := by cases l.s <;> rfl
  rw [hb]
  simp only [parse, Up.w_form h1.1 h1.2, Up.w_form h2.1 h2.2, Up.w_form h3.1 h3.2, Up.w_form h4.1 h4.2, Up.w_form h5.1 h5.2, Up.flag_form hs.1 hs.2, hs2]
  have hc : Up.close ⟨[], 0⟩ = 0 := rfl
  rw [hc, if_neg (by simp)]
  rw [show (⟨l.o, l.la, l.e, l.c, l.u, l.s⟩ : Ls) = l from rfl, if_neg (by simp [h])]
end Ls
theorem ren_bys0 {nl : Option Bool} {c : Cap} {ρ σ : Nat → Nat → Prop} {b : List Int} (h : b = []) : Ren ρ σ (.sl nl [] c) (bys b) := by subst h; exact .ro (fun x h => by cases h)
theorem ren_bys {nl : Option Bool} {c : Cap} {ρ σ : Nat → Nat → Prop} {b b' : List Int} (h : b' = b) : Ren ρ σ (.sl nl (ints .u8 b) c) (bys b') := by subst h; exact ren_ints
end Go.Abs

/- Plain: events and their bytes. -/
set_option linter.unusedVariables false
namespace Go.Abs
structure Ev where
  c : Int
  k : Int
  v : Int
  i : Int
abbrev Ev.z (x : Ev) : List D := [vi x.c, vi x.k, vi x.v, vi x.i]
abbrev I64' (n : Int) : Prop := -9223372036854775808 ≤ n ∧ n ≤ 9223372036854775807
namespace Ev
def okV (x : Ev) : Prop := I64' x.k ∧ I64' x.v ∧ I64' x.i
def chk (x : Ev) : Int := if x.c = 1 ∧ x.i = 0 then 0 else if x.c = 2 ∧ (x.k = 0 ∧ x.v = 0) ∧ x.i ≥ 1 ∧ x.i ≤ 9007199254740992 then 0 else 60
theorem chk_one {x : Ev} (h : x.chk ≠ 0) : x.chk = 60 := by
  unfold chk at *
  split
  · rename_i h1; rw [if_pos h1] at h; simp at h
  · rename_i h1
    rw [if_neg h1] at h
    split
    · rename_i h2; rw [if_pos h2] at h; simp at h
    · rfl
def nums (x : Ev) : List Int := if x.c = 2 then [2, x.i] else [1, x.k, x.v]
theorem nums_i64 {x : Ev} (h : x.okV) : ∀ n ∈ x.nums, I64' n := by
  obtain ⟨h1, h2, h3⟩ := h
  intro n hn
  unfold nums at hn
  split at hn
  · simp at hn; rcases hn with rfl | rfl
    · constructor <;> omega
    · exact h3
  · simp at hn; rcases hn with rfl | rfl | rfl
    · constructor <;> omega
    · exact h1
    · exact h2
theorem nums_len (x : Ev) : x.nums.length ≤ 3 := by unfold nums; split <;> simp
def put (b : List Int) (x : Ev) : List Int := if x.chk ≠ 0 then b else b ++ forms x.nums
def all (l : List Ev) : List Int := l.flatMap fun x => forms x.nums
def bytes (l : List Ev) : List Int × Int := if l.any (fun x => x.chk != 0) = true then ([], 60) else if l.length > 4096 then ([], 3) else (forms [(l.length : Int)] ++ all l, 0)
theorem any_yes {l : List Ev} {i : Nat} {x : Ev} (hx : l[i]? = some x) (h : x.chk ≠ 0) : l.any (fun x => x.chk != 0) = true := by
  rw [List.any_eq_true]; exact ⟨x, List.mem_of_getElem? hx, by simpa using h⟩
theorem any_no {l : List Ev} (h : ∀ (j : Nat) (x : Ev), j < l.length → l[j]? = some x → x.chk = 0) : l.any (fun x => x.chk != 0) = false := by
  rw [List.any_eq_false]
  intro x hx
  obtain ⟨j, hj⟩ := List.getElem?_of_mem hx
  have := h j x (List.getElem?_eq_some_iff.1 hj).1 hj
  simp [this]
theorem all_byt (l : List Ev) : Byt (all l) := by
  intro n hn
  simp only [all, List.mem_flatMap] at hn
  obtain ⟨x, _, h⟩ := hn
  exact forms_byt _ n h
theorem bytes_byt (l : List Ev) : Byt (bytes l).1 := by
  unfold bytes; split
  · intro x hx; cases hx
  · split
    · intro x hx; cases hx
    · exact (forms_byt _).append (all_byt l)
end Ev
end Go.Abs

/- Plain: events read out of bytes. -/
set_option linter.unusedVariables false
namespace Go.Abs
def Ev.zero : Ev := ⟨0, 0, 0, 0⟩
def Up.take (u : Up) : Ev × Up :=
  if (u.int 1 2).1 = 2 then (if ((u.int 1 2).2.int 1 9007199254740992).2.e ≠ 0 then Ev.zero else ⟨(u.int 1 2).1, 0, 0, ((u.int 1 2).2.int 1 9007199254740992).1⟩, ((u.int 1 2).2.int 1 9007199254740992).2)
  else (if (u.int 1 2).2.w.2.w.2.e ≠ 0 then Ev.zero else ⟨(u.int 1 2).1, (u.int 1 2).2.w.1, (u.int 1 2).2.w.2.w.1, 0⟩, (u.int 1 2).2.w.2.w.2)
def Up.takes : Nat → Up → List Ev × Up
  | 0, u => ([], u)
  | k + 1, u => if u.e ≠ 0 then ([], u) else (u.take.1 :: (takes k u.take.2).1, (takes k u.take.2).2)
def Ev.parse (b : List Int) : List Ev × Int :=
  if (Up.takes (Up.int ⟨b, 0⟩ 0 4096).1.toNat (Up.int ⟨b, 0⟩ 0 4096).2).2.close ≠ 0 then ([], (Up.takes (Up.int ⟨b, 0⟩ 0 4096).1.toNat (Up.int ⟨b, 0⟩ 0 4096).2).2.close)
  else ((Up.takes (Up.int ⟨b, 0⟩ 0 4096).1.toNat (Up.int ⟨b, 0⟩ 0 4096).2).1, 0)
def Ev.rparse (b : List Int) : (Int × Int) × Int :=
  if (Up.w ⟨b, 0⟩).2.w.2.close ≠ 0 then ((0, 0), (Up.w ⟨b, 0⟩).2.w.2.close) else (((Up.w ⟨b, 0⟩).1, (Up.w ⟨b, 0⟩).2.w.1), 0)
end Go.Abs

/- Plain: the numbers with which bytes begin. -/
set_option linter.unusedVariables false
namespace Go.Abs
abbrev NP := Int × Int
abbrev npz (p : NP) : List D := [vi p.1, vi p.2]
def numsF (b : List Int) : Nat → Nat → List NP
  | 0, _ => []
  | f + 1, p => if (firstP (b.drop p)).2.2 ≠ 0 then [] else ((firstP (b.drop p)).1, ((p + (firstP (b.drop p)).2.1 : Nat) : Int)) :: numsF b f (p + (firstP (b.drop p)).2.1)
def nums (b : List Int) : List NP := numsF b (b.length + 1) 0
/-- Of the numbers pre are read, up to p. -/
structure NS (b : List Int) (pre : List NP) (p f : Nat) : Prop where
  le : p ≤ b.length
  fuel : b.length - p < f
  eq : nums b = pre ++ numsF b f p
  cnt : pre.length ≤ p
  frm : b.take p = pre.flatMap (fun q => form q.1)
  last : ∀ q, pre.getLast? = some q → q.2 = p
  zero : pre = [] → p = 0
theorem NS.start (b : List Int) : NS b [] 0 (b.length + 1) := ⟨Nat.zero_le _, by omega, rfl, Nat.le_refl _, by simp, fun q h => by simp at h, fun _ => rfl⟩
theorem NS.stop {b : List Int} {pre : List NP} {p f : Nat} (h : NS b pre p f) (he : (firstP (b.drop p)).2.2 ≠ 0) : nums b = pre := by
  have hf := h.fuel
  obtain ⟨f, rfl⟩ : ∃ g, f = g + 1 := ⟨f - 1, by omega⟩
  rw [h.eq, numsF, if_pos he, List.append_nil]
theorem NS.full {b : List Int} {pre : List NP} {p f : Nat} (h : NS b pre p f) (he : ¬ p < b.length) : nums b = pre := by
  refine h.stop ?_
  rw [List.drop_eq_nil_of_le (by omega)]
  simp [firstP, firstG]
theorem NS.next {b : List Int} (hb : Byt b) {pre : List NP} {p f : Nat} (h : NS b pre p f) (he : (firstP (b.drop p)).2.2 = 0) :
    NS b (pre ++ [((firstP (b.drop p)).1, ((p + (firstP (b.drop p)).2.1 : Nat) : Int))]) (p + (firstP (b.drop p)).2.1) (f - 1) ∧
    (nums b)[pre.length]? = some ((firstP (b.drop p)).1, ((p + (firstP (b.drop p)).2.1 : Nat) : Int)) := by
  have hf := h.fuel
  have hbd := firstP_bd he
  rw [List.length_drop] at hbd
  have hle := h.le
  have hc := h.cnt
  obtain ⟨f, rfl⟩ : ∃ g, f = g + 1 := ⟨f - 1, by omega⟩
  have e := h.eq
  rw [numsF, if_neg (by simp [he])] at e
  refine ⟨⟨by omega, by omega, by rw [e]; simp, by simp; omega, ?_, ?_, by simp⟩, by rw [e]; simp⟩
  · have hi := firstP_inv (hb.drop p) he
    have h1 : b.take (p + (firstP (b.drop p)).2.1) = b.take p ++ (b.drop p).take (firstP (b.drop p)).2.1 := by rw [List.take_add]
    have h2 : (b.drop p).take (firstP (b.drop p)).2.1 = form (firstP (b.drop p)).1 := by
      have hl : (form (firstP (b.drop p)).1).length = (firstP (b.drop p)).2.1 := by
        have := congrArg List.length hi
        simp only [List.length_append, List.length_drop] at this
        omega
      conv => lhs; arg 2; rw [hi]
      rw [← hl, List.take_left]
    rw [h1, h2, h.frm]; simp
  · intro q hq
    rw [List.getLast?_append] at hq
    simp at hq
    rw [← hq]
    simp
theorem nums_len (b : List Int) : (nums b).length ≤ b.length := by
  have key : ∀ f pre p, NS b pre p f → Byt b → True := fun _ _ _ _ _ => trivial
  have : ∀ (f p : Nat), p ≤ b.length → (numsF b f p).length ≤ b.length - p := by
    intro f
    induction f with
    | zero => intro p _; simp [numsF]
    | succ f ih =>
      intro p hp
      rw [numsF]
      split
      · simp
      · rename_i h
        have hbd := firstP_bd (b := b.drop p) (by simpa using h)
        rw [List.length_drop] at hbd
        have := ih (p + (firstP (b.drop p)).2.1) (by omega)
        simp only [List.length_cons]; omega
  exact this _ 0 (Nat.zero_le _)
end Go.Abs
namespace Go.Abs
theorem firstP_i64 {b : List Int} (hb : Byt b) : ∀ (f p : Nat), ∀ q ∈ numsF b f p, -9223372036854775808 ≤ q.1 ∧ q.1 ≤ 9223372036854775807
  | 0, p, q, h => by simp [numsF] at h
  | f + 1, p, q, h => by
    rw [numsF] at h
    split at h
    · cases h
    · rcases List.mem_cons.1 h with rfl | h
      · exact firstP_num (hb.drop p)
      · exact firstP_i64 hb f _ q h
theorem nums_i64 {b : List Int} (hb : Byt b) : ∀ n ∈ (nums b).map (·.1), -9223372036854775808 ≤ n ∧ n ≤ 9223372036854775807 := by
  intro n hn
  obtain ⟨q, hq, rfl⟩ := List.mem_map.1 hn
  exact firstP_i64 hb _ _ q hq
end Go.Abs

/- Regions whose first operations come in any order and whose others come in the written order. -/
set_option linter.unusedVariables false
set_option linter.unusedSimpArgs false
namespace Go.Abs
variable {P : Program} {N : Nat} {ops : Array Oper} {Q : Exit → Tm → List Ob → Prop} {tm : Tm} {S : List Ob}
def edgeAt (ops : Array Oper) (i j : Nat) : Bool := match ops[i]? with | some o => hasEdge o j | none => false
def sinksB (ops : Array Oper) (m : Nat) : Bool := (List.range m).all fun j => (List.range (m + 1)).any fun i => Nat.blt j i && edgeAt ops i j
def rowB (ops : Array Oper) (m : Nat) : Bool := (List.range ops.size).all fun k => Nat.ble k m || edgeAt ops k (k - 1)
end Go.Abs

/- Slices into variables' blocks: written in place. -/
set_option linter.unusedVariables false
set_option linter.unusedSimpArgs false
namespace Go.Abs
variable {P : Program} {N : Nat} {ops : Array Oper} {l : List Oper} {Q : Exit → Tm → List Ob → Prop} {tm : Tm} {S : List Ob}

/-- The cells of elements, one behind the other. -/
theorem flat_get {sz : Nat} : ∀ {xs : List (List D)} (h : ∀ x ∈ xs, x.length = sz) {i j : Nat} {x : List D} {d : D}, xs[i]? = some x → x[j]? = some d → xs.flatten[i * sz + j]? = some d
  | [], _, i, j, x, d, hx, _ => by simp at hx
  | y :: ys, h, i, j, x, d, hx, hd => by
    have hy : y.length = sz := h y (by simp)
    rw [List.flatten_cons]
    cases i with
    | zero =>
      simp only [List.getElem?_cons_zero, Option.some.injEq] at hx
      subst hx
      have := (List.getElem?_eq_some_iff.1 hd).1
      rw [List.getElem?_append_left (by omega), Nat.zero_mul, Nat.zero_add]; exact hd
    | succ i =>
      have hx' : ys[i]? = some x := by simpa using hx
      rw [Nat.add_mul, Nat.one_mul, List.getElem?_append_right (by omega), show i * sz + sz + j - y.length = i * sz + j by omega]
      exact flat_get (fun x hx => h x (by simp [hx])) hx' hd
theorem flat_len {sz : Nat} : ∀ {xs : List (List D)} (h : ∀ x ∈ xs, x.length = sz), xs.flatten.length = xs.length * sz
  | [], _ => by simp
  | y :: ys, h => by
    rw [List.flatten_cons, List.length_append, flat_len (fun x hx => h x (by simp [hx])), h y (by simp), List.length_cons, Nat.add_mul]; omega
section ops
variable {dst : Option Tmp} {t' : Tmp} {ty : TypeId} {pos : String} {after : Array Edge}

end ops

/-- What is lent to a call that only reads. -/
inductive Peek (l : Nat) (cs : List D) : D → D → Prop
  | ren {d d' : D} (h : Ren (fun _ _ => False) (fun _ _ => False) d d') : Peek l cs d d'
  | bs {o n sz : Nat} {xs : List (List D)} {a b : List D} (hcs : cs = a ++ xs.flatten ++ b) (ho : a.length = o) (hn : xs.length = n) (hsz : ∀ x ∈ xs, x.length = sz) (hone : ∀ x ∈ xs, ∀ d ∈ x, d.one = true) (hlf : ∀ x ∈ xs, ∀ d ∈ x, LF d) : Peek l cs (.bs l o n) (.sl none xs .ro)
  | agg {as bs : List D} (hl : as.length = bs.length) (h : ∀ (i : Nat) (x y : D), as[i]? = some x → bs[i]? = some y → Peek l cs x y) : Peek l cs (.agg as) (.agg bs)
def G.show (g : G) (b n : Nat) : G := { g.sub [] with lim := fun x => if x = b then n else g.lim x }
theorem Peek.rep {g : G} {w : World} {l b : Nat} {cs : List D} {c : Array Value} {T : TypeId} (he : g.eta l = some b) (hh : w.heap[b]? = some (.cells c T (0, 0))) (hsz : cs.length ≤ c.size) (hlim : g.lim b = 0)
    (hrep : ∀ (i : Nat) (v : Value) (d : D), c[i]? = some v → cs[i]? = some d → Rep g w v d) {d d' : D} (h : Peek l cs d d') : ∀ {v : Value}, Rep g w v d → Rep (g.show b c.size) w v d' := by
  have hle : Le (g.sub []) w (g.show b c.size) w := by
    refine ⟨fun ad v hv => ⟨hv.1, ?_, hv.2.2⟩, fun l b h => h, fun l n x e => ⟨n, x, e, .inr ⟨rfl, rfl⟩⟩⟩
    simp only [G.show]
    have h2 : ad.off < g.lim ad.block := hv.2.1
    split
    · rename_i h; rw [h, hlim] at h2; omega
    · exact h2
  have hmono : ∀ {v : Value} {d : D}, LF d → Rep g w v d → Rep (g.show b c.size) w v d := fun h r => (Rep.lf (g := g) (g' := g.sub []) rfl r h).mono hle
  induction h with
  | ren h => exact fun r => (Ren.rep (g := g) (g' := g.sub []) rfl (fun _ _ h => h.elim) (fun _ _ h => h.elim) h r).mono hle
  | bs hcs ho hn hsz2 hone hlf =>
    rename_i o n sz xs a b'
    intro v r
    cases r with
    | bs q1 q2 =>
      rw [he] at q1; cases q1
      have hxl : xs.flatten.length = xs.length * sz := flat_len hsz2
      have key : ∀ (i : Nat) (x : List D), xs[i]? = some x → ∀ (j : Nat) (d : D), x[j]? = some d → ∃ u, c[o + (i * sz + j)]? = some u ∧ Rep g w u d := fun i x hx j d hd => by
        have h1 := flat_get hsz2 hx hd
        have h1l := (List.getElem?_eq_some_iff.1 h1).1
        have h2 : cs[o + (i * sz + j)]? = some d := by
          rw [hcs, List.append_assoc, List.getElem?_append_right (by omega), ho, Nat.add_sub_cancel_left, List.getElem?_append_left h1l]; exact h1
        have h3 : o + (i * sz + j) < c.size := Nat.lt_of_lt_of_le (List.getElem?_eq_some_iff.1 h2).1 hsz
        exact ⟨_, Array.getElem?_eq_getElem h3, hrep _ _ _ (Array.getElem?_eq_getElem h3) h2⟩
      refine .sl sz (fun i j => c.getD (o + (i * sz + j)) undef) hn q2 (fun e => by cases e) (fun b h => by cases h) hsz2 (fun i x hx j d hd => ?_) (fun i x hx j d hd => ?_) trivial
      · obtain ⟨u, k1, k2⟩ := key i x hx j d hd
        have e2 : c.getD (o + (i * sz + j)) undef = u := by rw [Array.getD_eq_getD_getElem?, k1]; rfl
        refine ⟨_, rfl, ?_, ?_, ?_⟩
        · rw [add_lit, e2]; simp only [World.cell?, hh]; simpa using k1
        · rw [add_lit]; simp only [G.show, if_true]; exact (Array.getElem?_eq_some_iff.1 k1).1
        · rw [e2]; exact rep_one k2 (hone x (List.mem_of_getElem? hx) d (List.mem_of_getElem? hd))
      · obtain ⟨u, k1, k2⟩ := key i x hx j d hd
        have e2 : c.getD (o + (i * sz + j)) undef = u := by rw [Array.getD_eq_getD_getElem?, k1]; rfl
        rw [e2]; exact hmono (hlf x (List.mem_of_getElem? hx) d (List.mem_of_getElem? hd)) k2
  | agg hl h ih =>
    intro v r
    cases r with
    | agg hs hrep' => exact .agg (by omega) (fun i v d h1 h2 => by obtain ⟨x, hx⟩ := get_pair hl h2; exact ih i x d hx h2 (hrep' i v x h1 hx))
mutual
theorem flat_rep {g g' : G} {w w' : World} : ∀ {d : D} {v : Value}, d.flat = true → Rep g w v d → Rep g' w' v d
  | .any, v, _, r => .any v
  | .val u, v, _, r => by cases r; exact .val _
  | .agg ds, v, h, r => by
    cases r with
    | agg hs hrep => exact .agg hs (fun i u d h1 h2 => flats_rep (by simpa [D.flat] using h) (hrep i u d h1 h2) (List.mem_of_getElem? h2))
  | .tup ds, v, h, r => by
    cases r with
    | tup hs hrep => exact .tup hs (fun i u d h1 h2 => flats_rep (by simpa [D.flat] using h) (hrep i u d h1 h2) (List.mem_of_getElem? h2))
  | .sl .., v, h, r => by simp [D.flat] at h
  | .rp .., v, h, r => by simp [D.flat] at h
  | .bp .., v, h, r => by simp [D.flat] at h
  | .bs .., v, h, r => by simp [D.flat] at h
  | .bq .., v, h, r => by simp [D.flat] at h
  | .fn .., v, h, r => by simp [D.flat] at h
theorem flats_rep {g g' : G} {w w' : World} : ∀ {ds : List D} {d : D} {v : Value}, flats ds = true → Rep g w v d → d ∈ ds → Rep g' w' v d
  | [], d, v, _, _, h => by cases h
  | e :: es, d, v, h, r, hm => by
    rw [flats, Bool.and_eq_true] at h
    rcases List.mem_cons.1 hm with e1 | e1
    · rw [e1] at r ⊢; exact flat_rep h.1 r
    · exact flats_rep h.2 r e1
end
end Go.Abs

/- Calls that only read what is lent; slices written in place, as results; their end. -/
set_option linter.unusedVariables false
set_option linter.unusedSimpArgs false
namespace Go.Abs
variable {P : Program} {N : Nat} {ops : Array Oper} {l : List Oper} {Q : Exit → Tm → List Ob → Prop} {tm : Tm} {S : List Ob}
inductive PeekAll (l : Nat) (cs : List D) : List D → List D → Prop
  | nil : PeekAll l cs [] []
  | cons {a b : D} {as bs : List D} (h : Peek l cs a b) (t : PeekAll l cs as bs) : PeekAll l cs (a :: as) (b :: bs)
theorem PeekAll.length {l : Nat} {cs as bs : List D} (h : PeekAll l cs as bs) : as.length = bs.length := by
  induction h with
  | nil => rfl
  | cons h t ih => simp [ih]
theorem PeekAll.get {l : Nat} {cs as bs : List D} (h : PeekAll l cs as bs) : ∀ (i : Nat) (x y : D), as[i]? = some x → bs[i]? = some y → Peek l cs x y := by
  induction h with
  | nil => intro i x y h; simp at h
  | cons h t ih =>
    intro i x y h1 h2
    cases i with
    | zero => simp at h1 h2; subst h1; subst h2; exact h
    | succ i => exact ih i x y (by simpa using h1) (by simpa using h2)
section ops
variable {t : Tmp} {ty : TypeId} {pos : String} {after : Array Edge}
end ops
end Go.Abs

/- Results that hold a row or a block of their own somewhere within. -/
set_option linter.unusedVariables false
set_option linter.unusedSimpArgs false
namespace Go.Abs
variable {P : Program} {N : Nat} {ops : Array Oper} {l : List Oper} {Q : Exit → Tm → List Ob → Prop} {tm : Tm} {S : List Ob}
section ops
variable {t : Tmp} {ty : TypeId} {pos : String} {after : Array Edge}
end ops
end Go.Abs

/- Plain: sessions with nothing under way; packets and their bytes. -/
set_option linter.unusedVariables false
namespace Go.Abs
def posN (n : Int) : Bool := decide (n ≥ 1) && decide (n ≤ 9007199254740992)
def numN (n : Int) : Bool := decide (n ≥ 0) && decide (n ≤ 9007199254740992)
theorem posN_iff {n : Int} : posN n = true ↔ 1 ≤ n ∧ n ≤ 9007199254740992 := by simp [posN]
theorem numN_iff {n : Int} : numN n = true ↔ 0 ≤ n ∧ n ≤ 9007199254740992 := by simp [numN]
structure Ss where
  b : Int
  p : Int
  s : Int
  a : Int
  e : Int
abbrev ssz (x : Ss) : List D := [vi x.b, vi x.p, vi x.s, vi x.a, vi x.e, .sl none [] .ro]
structure Pq where
  b : Int
  p : Int
  s : Int
  a : Int
  l : List Int
abbrev pqz (x : Pq) : List D := [vi x.b, vi x.p, vi x.s, vi x.a, bys x.l]
def Ss.may (x : Ss) : Prop := (1 ≤ x.b ∧ x.b ≤ 9007199254740992) ∧ (0 ≤ x.p ∧ x.p ≤ 9007199254740992) ∧ (0 ≤ x.s ∧ x.s ≤ 9007199254740992) ∧ (0 ≤ x.a ∧ x.a ≤ 9007199254740992) ∧ (1 ≤ x.e ∧ x.e ≤ 9007199254740992) ∧ x.s = x.a
instance (x : Ss) : Decidable x.may := inferInstanceAs (Decidable (_ ∧ _))
def Ss.chk (x : Ss) : Int := if x.may then 0 else 1
def Pq.may (x : Pq) : Prop := (1 ≤ x.b ∧ x.b ≤ 9007199254740992) ∧ (0 ≤ x.p ∧ x.p ≤ 9007199254740992) ∧ (0 ≤ x.s ∧ x.s ≤ 9007199254740992) ∧ (0 ≤ x.a ∧ x.a ≤ 9007199254740992) ∧ x.l.length ≤ 131072 ∧ ¬ (x.s = 0 ∧ 0 < x.l.length)
instance (x : Pq) : Decidable x.may := inferInstanceAs (Decidable (_ ∧ _))
def Pq.chk (x : Pq) : Int := if x.may then 0 else 1
def Pq.z : Pq := ⟨0, 0, 0, 0, []⟩
theorem Ss.chk0 {x : Ss} : x.chk = 0 ↔ x.may := by unfold Ss.chk; split <;> simp_all
theorem Pq.chk0 {x : Pq} : x.chk = 0 ↔ x.may := by unfold Pq.chk; split <;> simp_all
def Ss.answer (x : Ss) : Pq := if x.chk ≠ 0 then Pq.z else ⟨x.b, x.p, 0, x.e - 1, []⟩
def Ss.meet (x : Ss) (p : Pq) : Ss := if p.b > x.p then ⟨x.b, p.b, 0, 0, 1⟩ else x
def Ss.take (x : Ss) (p : Pq) : Ss × List Int × Bool :=
  if x.chk ≠ 0 ∨ p.chk ≠ 0 ∨ p.b < x.p then (x, [], false)
  else if p.p ≠ (x.meet p).b then (x.meet p, [], false)
  else if p.s ≠ (x.meet p).e ∨ (x.meet p).e ≥ 9007199254740992 then (x.meet p, [], false)
  else (⟨(x.meet p).b, (x.meet p).p, (x.meet p).s, (x.meet p).a, (x.meet p).e + 1⟩, p.l, true)
namespace Pq
def four (x : Pq) : List Int := [x.b, x.p, x.s, x.a]
def bytes (x : Pq) : List Int := if x.chk ≠ 0 then [] else forms x.four ++ forms [(x.l.length : Int)] ++ x.l
theorem four_i64 {x : Pq} (h : x.chk = 0) : ∀ n ∈ x.four, -9223372036854775808 ≤ n ∧ n ≤ 9223372036854775807 := by
  rw [chk0] at h
  obtain ⟨h1, h2, h3, h4, _⟩ := h
  intro n hn
  simp only [four, List.mem_cons, List.not_mem_nil, or_false] at hn
  rcases hn with rfl | rfl | rfl | rfl <;> constructor <;> omega
def parse (b : List Int) : Pq × Int :=
  let r1 := Up.w ⟨b, 0⟩; let r2 := r1.2.w; let r3 := r2.2.w; let r4 := r3.2.w; let r5 := r4.2.str 131072
  if r5.2.close ≠ 0 then (z, r5.2.close) else if (⟨r1.1, r2.1, r3.1, r4.1, r5.1⟩ : Pq).chk ≠ 0 then (z, (⟨r1.1, r2.1, r3.1, r4.1, r5.1⟩ : Pq).chk) else (⟨r1.1, r2.1, r3.1, r4.1, r5.1⟩, 0)
theorem bytes_byt {x : Pq} (hb : Byt x.l) : Byt x.bytes := by
  unfold bytes; split
  · intro a ha; cases ha
  · intro a ha
    rcases List.mem_append.1 ha with h | h
    · rcases List.mem_append.1 h with h | h <;> exact forms_byt _ a h
    · exact hb a h
theorem bytes_l40 {x : Pq} : L40 x.bytes := by
  unfold bytes; split
  · simp [L40]
  · rename_i h
    have h0 : x.chk = 0 := by simpa using h
    have h4 := forms_len' x.four (four_i64 h0)
    have hm := (chk0.1 h0).2.2.2.2.1
    have h1 := forms_len' [(x.l.length : Int)] (by intro n hn; simp at hn; subst hn; constructor <;> omega)
    simp only [L40, List.length_append, four, List.length_cons, List.length_nil] at *
    omega
theorem parse_bytes {x : Pq} (h : x.chk = 0) : parse x.bytes = (x, 0) := by
  have h6 := four_i64 h
  simp only [four, List.mem_cons, List.not_mem_nil, or_false, forall_eq_or_imp, forall_eq] at h6
  obtain ⟨h1, h2, h3, h4⟩ := h6
  have hm := (chk0.1 h).2.2.2.2.1
  have hb : x.bytes = form x.b ++ (form x.p ++ (form x.s ++ (form x.a ++ (form (x.l.length : Int) ++ (x.l ++ []))))) := by
    unfold bytes; rw [if_neg (by simp [h])]; simp [four, forms]
  rw [hb]
  simp only [parse, Up.w_form h1.1 h1.2, Up.w_form h2.1 h2.2, Up.w_form h3.1 h3.2, Up.w_form h4.1 h4.2, Up.str_form (x := x.l) (by omega) (m := 131072) (by omega)]
  have hc : Up.close ⟨[], 0⟩ = 0 := rfl
  rw [hc, if_neg (by simp)]
  rw [show (⟨x.b, x.p, x.s, x.a, x.l⟩ : Pq) = x from rfl, if_neg (by simp [h])]
end Pq
def Ss.new (n : Int) : Ss := if posN n = true then ⟨n, 0, 0, 0, 1⟩ else ⟨0, 0, 0, 0, 0⟩
end Go.Abs

/- What is a slice's own is forgotten. -/
set_option linter.unusedVariables false
set_option linter.unusedSimpArgs false
namespace Go.Abs
variable {P : Program} {N : Nat} {Q : Exit → Tm → List Ob → Prop} {tm : Tm} {S : List Ob}
theorem Rep.asRo {g : G} {w : World} {v : Value} {nl : Option Bool} {xs : List (List D)} {c : Cap} (r : Rep g w v (.sl nl xs c)) : Rep g w v (.sl none xs .ro) := by
  cases r with
  | sl st f hn hcap hnone hnl hst hcell hrep hc => exact .sl st f hn hcap hnone (fun b e => by cases e) hst hcell hrep trivial
theorem AWP.asRo {t : Nat} {nl : Option Bool} {xs : List (List D)} {k : Cap} {c : Code} (hx : tm t = .sl nl xs k) (h : AWP P N c Q (put tm t (.sl none xs .ro)) S) : AWP P N c Q tm S := fun ro hro g a w st =>
  h ro hro g a w ⟨st.size, st.based, st.once, st.defers, fun i => by
    by_cases e : i = t
    · subst e; rw [put_same]; have r := st.slots i; rw [hx] at r; exact r.asRo
    · rw [put_other _ _ e]; exact st.slots i, st.sim⟩
end Go.Abs

/- Literal bytes that are converted to bytes. -/
set_option linter.unusedVariables false
set_option linter.unusedSimpArgs false
namespace Go.Abs
variable {P : Program} {N : Nat} {ops : Array Oper} {l : List Oper} {Q : Exit → Tm → List Ob → Prop} {tm : Tm} {S : List Ob}
section ops
variable {t : Tmp} {ty : TypeId} {pos : String} {after : Array Edge}
end ops
end Go.Abs

/- Calls walked in place, with the caller's own objects; addresses within arrays. -/
set_option linter.unusedVariables false
set_option linter.unusedSimpArgs false
namespace Go.Abs
variable {P : Program} {N : Nat} {ops : Array Oper} {l : List Oper} {Q : Exit → Tm → List Ob → Prop} {tm : Tm} {S : List Ob}
/-- What a call comes to, told by what is left of it. -/
def DoesK (P : Program) (f : FuncId) (ds : List D) (S : List Ob) (K : D → List Ob → Prop) : Prop :=
  ∀ (g : G) (w : World) (vs : Array Value), Sim g w S → vs.size = ds.length → (∀ (i : Nat) (v : Value) (d : D), vs[i]? = some v → ds[i]? = some d → Rep g w v d) →
    Calls P f vs w (fun e w' => ∃ v g' r S', e = .returned v ∧ K r S' ∧ Rep g' w' v r ∧ Sim g' w' S' ∧ Later g w g' w')
/-- The end of a function that is walked in place. -/
def FinK (P : Program) (rvs : List ResultVar) (K : D → List Ob → Prop) (e : Exit) (tm : Tm) (S : List Ob) : Prop :=
  (e = .normal ∨ e = .ret) ∧ ∃ ds, RVs P tm S rvs ds ∧ K (resD ds) S
theorem DoesK.of_body {f : FuncId} {fn : Func} {c : Code} {rvs : List ResultVar} {ds : List D} {K : D → List Ob → Prop} (hf : P.funcs[f]? = some fn) (hb : fn.body = some c) (hN : fn.ntmps = N) (hres : fn.results = rvs.toArray) (hlen : Nat.ble ds.length N = true)
    (h : AWP P N c (FinK P rvs K) (frameOf ds) S) : DoesK P f ds S K := by
  intro g1 w vs hs hl hrep
  have hlen := Nat.le_of_ble_eq_true hlen
  obtain ⟨g, hg⟩ : ∃ g, g = { g1 with base := w.heap.size } := ⟨_, rfl⟩
  have hgb : g.base = w.heap.size := by rw [hg]
  have hs : Sim g w S := by rw [hg]; exact hs.rebase _
  have hrep : ∀ (i : Nat) (v : Value) (d : D), vs[i]? = some v → ds[i]? = some d → Rep g w v d := fun i v d h1 h2 => by rw [hg]; exact (hrep i v d h1 h2).mono (Le.rebase _)
  rw [← callsIn_wide (n := 0)]
  refine callsIn_of_wp_marks hf hb trivial ?_
  have st : St N g (frameOf ds) S { tmps := vs ++ Array.replicate (fn.ntmps - vs.size) undef, defers := [] } w := by
    refine ⟨by simp; omega, by rw [hgb]; exact Nat.le_refl _, List.nodup_nil, (fun d hd => by cases hd), ?_, hs⟩
    intro i
    show Rep g w ((vs ++ Array.replicate (fn.ntmps - vs.size) undef).getD i undef) (ds.getD i .any)
    by_cases hi : i < ds.length
    · have h1 : (vs ++ Array.replicate (fn.ntmps - vs.size) undef).getD i undef = vs[i]'(by omega) := by
        rw [Array.getD_eq_getD_getElem?, Array.getElem?_append_left (by omega), Array.getElem?_eq_getElem (by omega)]; rfl
      have h2 : ds.getD i .any = ds[i] := by rw [List.getD_eq_getElem?_getD, List.getElem?_eq_getElem hi]; rfl
      rw [h1, h2]
      exact hrep i _ _ (Array.getElem?_eq_getElem (by omega)) (List.getElem?_eq_getElem hi)
    · have h2 : ds.getD i .any = .any := by rw [List.getD_eq_getElem?_getD, List.getElem?_eq_none (by omega)]; rfl
      rw [h2]; exact .any _
  refine Code.wpIn_mono ?_ (h none (fun k => by cases k) g _ w st)
  rintro e a' w' ⟨g', tm', S1, ⟨he, ds', hrv, hk⟩, st', hl'⟩
  have hfin : LeavesInM Fence.wide 0 P fn a'.tmps (fun e w' => ∃ v g' r S', e = .returned v ∧ K r S' ∧ Rep g' w' v r ∧ Sim g' w' S' ∧ Later g1 w g' w') a'.defers .returning w' := by
    refine st'.leaves hl' (by rw [hl'.2.base, hgb]; exact Nat.le_refl _) a'.defers rfl ?_
    intro w2 st2 hl2
    obtain ⟨v, hrun, hv⟩ := results_rep st2 hres hrv
    refine ⟨v, hrun, v, { g' with base := g1.base }, resD ds', S1, rfl, hk, hv.mono (Le.rebase _), st2.sim.rebase _, ?_⟩
    have h3 := hl2
    rw [hg] at h3
    exact ⟨⟨h3.1.cell, h3.1.eta, h3.1.row⟩, ⟨h3.2.size, h3.2.os, h3.2.tape, h3.2.output, h3.2.old, h3.2.kept, rfl⟩⟩
  rcases he with rfl | rfl
  · exact hfin
  · exact hfin
section ops
variable {dst : Option Tmp} {ty : TypeId} {pos : String} {after : Array Edge}
end ops
end Go.Abs

/- Plain: what two have, told by truth values. -/
set_option linter.unusedVariables false
namespace Go.Abs.Tb
def reg (b : Bool) : Int := if b then 1 else 0
def at2 {α : Type} (f : Bool → α) (b : Bool) (v : α) : Bool → α := fun x => if x = b then v else f x
end Go.Abs.Tb

/- Objects behind which nothing is known; rows that slices within a variable own. -/
set_option linter.unusedVariables false
set_option linter.unusedSimpArgs false
namespace Go.Abs
/-- May be appended to. -/
def CapS (S : List Ob) (C : Cap) (n : Nat) : Prop := C = .full ∨ ∃ i, C = .own (i + 1) ∧ S[i]? = some (.row n 3)
def Dis (C D : Cap) : Prop := ∀ i, C = .own i → D ≠ .own i
/-- What an append leaves: the row i; the others' rows stay. -/
def Kept (S1 S2 : List Ob) (C : Cap) (i n : Nat) : Prop := S2[i]? = some (.row n 3) ∧ ∀ j m, S1[j]? = some (.row m 3) → C ≠ .own (j + 1) → S2[j]? = some (.row m 3) ∧ j ≠ i
theorem Kept.mine {S1 S2 : List Ob} {C : Cap} {i n : Nat} (h : Kept S1 S2 C i n) : CapS S2 (.own (i + 1)) n := .inr ⟨i, rfl, h.1⟩
theorem Kept.other {S1 S2 : List Ob} {C D : Cap} {i n m : Nat} (h : Kept S1 S2 C i n) (hd : CapS S1 D m) (hx : Dis D C) : CapS S2 D m ∧ Dis (.own (i + 1)) D ∧ Dis D (.own (i + 1)) := by
  rcases hd with rfl | ⟨j, rfl, hj⟩
  · exact ⟨.inl rfl, fun _ _ => by simp, fun _ e => by cases e⟩
  · have := h.2 j m hj (fun e => hx _ rfl e)
    exact ⟨.inr ⟨j, rfl, this.1⟩, fun k e e2 => by cases e; cases e2; exact this.2 rfl, fun k e e2 => by cases e; cases e2; exact this.2 rfl⟩
end Go.Abs

/- Arrays built; the lowest bit. -/
set_option linter.unusedVariables false
set_option linter.unusedSimpArgs false
namespace Go.Abs
open Tb
variable {P : Program} {N : Nat} {ops : Array Oper} {l : List Oper} {Q : Exit → Tm → List Ob → Prop} {tm : Tm} {S : List Ob}
section ops
variable {t : Tmp} {ty : TypeId} {pos : String} {after : Array Edge}
end ops
end Go.Abs

/- Blocks of known capacity: made, written in place, at last a row. -/
set_option linter.unusedVariables false
set_option linter.unusedSimpArgs false
namespace Go.Abs
variable {P : Program} {N : Nat} {ops : Array Oper} {l : List Oper} {Q : Exit → Tm → List Ob → Prop} {tm : Tm} {S : List Ob}
section ops
variable {t : Tmp} {ty : TypeId} {pos : String} {after : Array Edge}
end ops
end Go.Abs

/- Blocks of known capacity: appended to in place, cleared, made a row. -/
set_option linter.unusedVariables false
set_option linter.unusedSimpArgs false
namespace Go.Abs
variable {P : Program} {N : Nat} {ops : Array Oper} {l : List Oper} {Q : Exit → Tm → List Ob → Prop} {tm : Tm} {S : List Ob}
section ops
variable {t : Tmp} {ty : TypeId} {pos : String} {after : Array Edge}
end ops
section ops
variable {dst : Option Tmp} {t' : Tmp} {ty : TypeId} {pos : String} {after : Array Edge}
end ops
/-- A block of which a variable holds the whole slice: a row from now on. -/
theorem AWP.rowBq {j j' i n cap sz : Nat} {ds es : List D} {xs : List (List D)} {b : List D} {c : Code} {S' : List Ob} (hj' : S[j']? = some (.box es)) (hi : es[i]? = some (.bq j 0 n cap)) (hj : S[j]? = some (.box ds)) (hne : Nat.beq j j' = false) (hds : ds = xs.flatten ++ b) (hn : xs.length = n) (hcap : cap * sz ≤ ds.length) (hsz : ∀ x ∈ xs, x.length = sz)
    (hone : ∀ x ∈ xs, ∀ d ∈ x, d.one = true) (hS : (S.set j (.row n sz)).set j' (.box (es.set i (.sl none xs (.own j)))) = S') (h : AWP P N c Q tm S') : AWP P N c Q tm S := by
  subst hS
  intro ro hro g a w st
  have hne' : j ≠ j' := by rintro rfl; rw [Nat.beq_refl] at hne; cases hne
  obtain ⟨b0, cs, T, e1, e2, e3, e4, e5, e6⟩ := st.sim.obs j _ hj
  obtain ⟨b1, cs1, T1, f1, f2, f3, f4, f5, f6⟩ := st.sim.obs j' _ hj'
  have hjl : j < S.length := (List.getElem?_eq_some_iff.1 hj).1
  have hjl' : j' < S.length := (List.getElem?_eq_some_iff.1 hj').1
  obtain ⟨hs, hhs⟩ : ∃ hs, hs = Value.slice (some ⟨b0, 0, none⟩) n cap := ⟨_, rfl⟩
  obtain ⟨g', hg'⟩ : ∃ g' : G, g' = { g with lim := fun x => if x = b0 then n * sz else g.lim x, row := upd g.row j (some (n, hs)) } := ⟨_, rfl⟩
  have hb : b0 < w.heap.size := (st.sim.own b0 j e2).2
  have hb01 : b1 ≠ b0 := by rintro rfl; rw [e2] at f2; cases f2; exact hne' rfl
  have hncap : n ≤ cap := by
    have hil : i < es.length := (List.getElem?_eq_some_iff.1 hi).1
    have hr := f6 i _ _ (Array.getElem?_eq_getElem (show i < cs1.size by omega)) hi
    generalize cs1[i]'(by omega) = v at hr
    cases hr with
    | bq _ h => exact h
  have hrow : ∀ l, l ≠ j → g'.row l = g.row l := fun l hl => by rw [hg']; simp only; rw [upd_other _ _ hl]
  have hle : Le g w g' w := by
    refine ⟨fun ad v hv => ⟨hv.1, ?_, hv.2.2⟩, fun l b h => by rw [hg']; exact h, fun l n x e => ?_⟩
    · rw [hg']; simp only
      split
      · rename_i h; have := hv.2.1; rw [h, e5.1] at this; omega
      · exact hv.2.1
    · have hl : l ≠ j := by rintro rfl; rw [e5.2] at e; cases e
      exact ⟨n, x, (hrow l hl).trans e, .inr ⟨rfl, rfl⟩⟩
  have hlater : Later g w g' w := ⟨hle, ⟨Nat.le_refl _, rfl, rfl, rfl, fun x hx ho => ⟨rfl, by rw [hg']; simp only; rw [if_neg (by rintro rfl; rw [e2] at ho; cases ho)], by rw [hg']; exact ho⟩, fun x l hx ho => by rw [hg']; exact ho, by rw [hg']⟩⟩
  have hsl : ∀ v, Rep g w v (.bq j 0 n cap) → Rep g' w v (.sl none xs (.own j)) := by
    intro v r
    cases r with
    | bq hb' hcap' =>
      rw [e1] at hb'; cases hb'
      have key : ∀ (i : Nat) (x : List D), xs[i]? = some x → ∀ (j : Nat) (d : D), x[j]? = some d → i * sz + j < n * sz ∧ ∃ u, cs[i * sz + j]? = some u ∧ Rep g w u d := fun i x hx j d hd => by
        have h1 := flat_get hsz hx hd
        have h2 : ds[i * sz + j]? = some d := by rw [hds, List.getElem?_append_left (List.getElem?_eq_some_iff.1 h1).1]; exact h1
        have h3 : i * sz + j < cs.size := Nat.lt_of_lt_of_le (List.getElem?_eq_some_iff.1 h2).1 e4
        have h4 := (List.getElem?_eq_some_iff.1 h1).1
        rw [flat_len hsz, hn] at h4
        exact ⟨h4, _, Array.getElem?_eq_getElem h3, e6 _ _ _ (Array.getElem?_eq_getElem h3) h2⟩
      refine .sl sz (fun i j => cs.getD (i * sz + j) undef) hn hcap' (fun e => by cases e) (fun b h => by cases h) hsz (fun i x hx j d hd => ?_) (fun i x hx j d hd => ?_) ⟨n, hs, by rw [hg']; simp only [upd_same], Nat.le_refl _, fun _ => hhs.symm⟩
      · obtain ⟨k0, u, k1, k2⟩ := key i x hx j d hd
        have q2 : cs.getD (i * sz + j) undef = u := by rw [Array.getD_eq_getD_getElem?, k1]; rfl
        refine ⟨_, rfl, ?_, ?_, ?_⟩
        · rw [add_lit, q2, Nat.zero_add]; simp only [World.cell?, e3]; simpa using k1
        · rw [add_lit, Nat.zero_add, hg']; simp only [if_true]; exact k0
        · rw [q2]; exact rep_one k2 (hone x (List.mem_of_getElem? hx) d (List.mem_of_getElem? hd))
      · obtain ⟨k0, u, k1, k2⟩ := key i x hx j d hd
        have q2 : cs.getD (i * sz + j) undef = u := by rw [Array.getD_eq_getD_getElem?, k1]; rfl
        rw [q2]; exact k2.mono hle
  have hsim : Sim g' w ((S.set j (.row n sz)).set j' (.box (es.set i (.sl none xs (.own j))))) := by
    refine ⟨fun l ob hl => ?_, fun l hl => by rw [hg']; exact st.sim.noEta l (by simpa using hl), fun l hl => ?_, fun x l ho => ?_, fun x hx => ?_⟩
    · by_cases e' : l = j'
      · subst e'
        rw [List.getElem?_set_self (by simpa using hjl')] at hl
        cases hl
        refine ⟨b1, cs1, T1, hle.eta _ _ f1, by rw [hg']; exact f2, f3, by simpa using f4, ⟨by rw [hg']; simp only; rw [if_neg hb01]; exact f5.1, (hrow l (fun e => hne' e.symm)).trans f5.2⟩, fun k v d hv hd => ?_⟩
        by_cases ek : k = i
        · subst ek
          rw [List.getElem?_set_self (List.getElem?_eq_some_iff.1 hi).1] at hd
          cases hd
          exact hsl v (f6 k v _ hv hi)
        · rw [List.getElem?_set_ne (by omega)] at hd
          exact (f6 k v d hv hd).mono hle
      · rw [List.getElem?_set_ne (by omega)] at hl
        by_cases e : l = j
        · subst e
          rw [List.getElem?_set_self hjl] at hl
          cases hl
          refine ⟨some ⟨b0, 0, none⟩, cap, by rw [hg']; simp only [upd_same]; rw [hhs], hncap, fun e => by (cases e), .inr ⟨b0, 0, cs, T, rfl, by rw [hg']; exact e2, e3, by omega, by rw [hg']; simp only [if_true]; omega⟩⟩
        · rw [List.getElem?_set_ne (by omega)] at hl
          refine (st.sim.obs l ob hl).keep hle (.refl w) (fun x ho => ⟨rfl, ?_, by rw [hg']; exact ho⟩) (fun n h e' => by rw [hrow l e]; exact e') (fun k2 => ⟨by rw [hrow l e]; exact k2, fun k1 => by rw [hg']; exact k1⟩)
          rw [hg']; simp only; rw [if_neg (by rintro rfl; rw [e2] at ho; cases ho; exact e rfl)]
    · rw [hrow l (by rintro rfl; simp at hl; omega)]; exact st.sim.noRow l (by simpa using hl)
    · rw [hg'] at ho
      rw [List.length_set, List.length_set]; exact st.sim.own x l ho
    · rw [hg']; simp only; rw [if_neg (by omega)]; exact st.sim.lim x hx
  have st2 : St N g' tm ((S.set j (.row n sz)).set j' (.box (es.set i (.sl none xs (.own j))))) a w := by
    refine ⟨st.size, by rw [hg']; exact st.based, st.once, fun d hd => ?_, fun i => (st.slots i).mono hle, hsim⟩
    obtain ⟨b, k1, k2, k3, k4⟩ := st.defers d hd
    exact ⟨b, k1, by rw [hg']; exact k2, by rw [hg']; exact k3, k4⟩
  exact Code.wpIn_mono (fun e a' w' k => Post.later hlater k) (h ro hro _ a w st2)
end Go.Abs

/- Plain: the records of events, those ahead of a barrier, those between barriers. -/
set_option linter.unusedVariables false
namespace Go.Abs
abbrev Rc := Int × Int
abbrev rz (p : Rc) : List D := [vi p.1, vi p.2]
def Ev.rc (x : Ev) : Rc := (x.k, x.v)
def recs (l : List Ev) : List Rc := (l.filter fun x => x.c == 1).map Ev.rc
theorem lf_fnrp {f : Fn} {cs : List D} (h : ∀ d ∈ cs, LF d) : LF (.fn f [] [.rp cs]) := .fn (fun d h => by cases h) (fun d hd => by simp at hd; subst hd; exact .rp h)
theorem lf_rp1 {α : Type} {f : α → List D} (hf : ∀ a, flats (f a) = true) {l : List α} : ∀ d ∈ [D.sl none (l.map f) .ro], LF d := lf_cons (lf_map hf (.inl rfl)) lf_nil
theorem map_some {α : Type} {f : α → List D} {l : List α} {k : Nat} {x : List D} (h : (l.map f)[k]? = some x) : ∃ p, l[k]? = some p ∧ f p = x := by
  rw [List.getElem?_map] at h; exact Option.map_eq_some_iff.1 h
theorem map_one {α : Type} {f : α → List D} {n : Nat} (h : ∀ a, (f a).length = n) {l : List α} : ∀ x ∈ l.map f, x.length = n := fun x hx => by obtain ⟨p, _, rfl⟩ := List.mem_map.1 hx; exact h p
theorem one_one {y : List D} {n : Nat} (h : y.length = n) : ∀ x ∈ [y], x.length = n := fun x hx => by simp only [List.mem_cons, List.not_mem_nil, or_false] at hx; subst hx; exact h
theorem take_snoc {α : Type} {l : List α} {k : Nat} {p : α} (h : l[k]? = some p) : l.take (k + 1) = l.take k ++ [p] := by
  obtain ⟨hi, rfl⟩ := List.getElem?_eq_some_iff.1 h
  exact List.take_succ_eq_append_getElem hi
end Go.Abs

/- Plain: records between barriers. -/
set_option linter.unusedVariables false
set_option linter.unusedSimpArgs false
namespace Go.Abs
abbrev Ep := Int × List Rc
abbrev epz (e : Ep) : List D := [vi e.1, .sl none (e.2.map rz) .ro]
def stepE (s : List Ep × List Rc) (x : Ev) : List Ep × List Rc := if x.c = 1 then (s.1, s.2 ++ [x.rc]) else if x.c = 2 then (s.1 ++ [(x.i, s.2)], []) else s
def epsS (l : List Ev) : List Ep × List Rc := l.foldl stepE ([], [])
def eps (l : List Ev) : List Ep := (epsS l).1 ++ (if (epsS l).2.length > 0 then [(0, (epsS l).2)] else [])
theorem lf_mapG {α : Type} {f : α → List D} (hf : ∀ a, ∀ d ∈ f a, LF d) {nl : Option Bool} {l : List α} {c : Cap} (hc : c = .ro ∨ c = .full) : LF (.sl nl (l.map f) c) :=
  .sl (fun x hx d hd => by obtain ⟨a, _, rfl⟩ := List.mem_map.1 hx; exact hf a d hd) hc
theorem ren_mapG {ρ σ : Nat → Nat → Prop} {α : Type} {f : α → List D} (hf : ∀ a, ∀ d ∈ f a, LF d) {nl : Option Bool} {l : List α} {c : Cap} : Ren ρ σ (.sl nl (l.map f) c) (.sl none (l.map f) .ro) :=
  .ro (fun x hx d hd => by obtain ⟨a, _, rfl⟩ := List.mem_map.1 hx; exact hf a d hd)
end Go.Abs
namespace Go.Abs
end Go.Abs
namespace Go.Abs
def ups (l : List Ev) : List Rc := ((eps l)[0]?.map (·.2)).getD []
/-- Nothing is so. -/
abbrev Never : Ob := .seen (fun _ _ _ _ => False) none
end Go.Abs
namespace Go.Abs
end Go.Abs

/- Plain: sessions with what is under way. -/
set_option linter.unusedVariables false
namespace Go.Abs
structure Sq where
  b : Int
  p : Int
  s : Int
  a : Int
  e : Int
  q : List (List Int)
abbrev qe (y : List Int) : List D := [bys y]
abbrev sqc (x : Sq) (c : Cap) : List D := [vi x.b, vi x.p, vi x.s, vi x.a, vi x.e, .sl none (x.q.map qe) c]
abbrev sqz (x : Sq) : List D := sqc x .ro
theorem Does.toRo {P : Program} {f : FuncId} {ds : List D} {r r' : D} {T : List Ob} (h : Does P f ds [] r T) (hv : ∀ g w v, Rep g w v r → Rep g w v r') (hf : LF r') : Does P f ds [] r' [] := by
  intro g w vs hs hsz hr
  refine (h g w vs hs hsz hr).mono ?_
  rintro e w' ⟨v, g', rfl, hv1, hs', hl⟩
  refine ⟨v, g'.cut 0, rfl, (hv g' w' v hv1).un (.lf hf), ?_, hl.cut hs (Nat.le_refl _)⟩
  have := Sim.cut (S := []) (T := T) (by simpa using hs') (fun ob h => by cases h)
  exact this
abbrev MX : Int := 9007199254740992
structure Sq.Ok (x : Sq) : Prop where
  b : 1 ≤ x.b ∧ x.b ≤ MX
  p : 0 ≤ x.p ∧ x.p ≤ MX
  s : 0 ≤ x.s ∧ x.s ≤ MX
  a : 0 ≤ x.a ∧ x.a ≤ MX
  e : 1 ≤ x.e ∧ x.e ≤ MX
  d : x.s - x.a = (x.q.length : Int)
  m : x.q.length ≤ 16
  l : ∀ y ∈ x.q, y.length ≤ 131072
def Sq.pk (x : Sq) (n : Int) (l : List Int) : Pq := ⟨x.b, x.p, n, x.e - 1, l⟩
def Sq.meet (x : Sq) (p : Pq) : Sq := if p.b > x.p then ⟨x.b, p.b, 0, 0, 1, []⟩ else x
def Sq.ack (x : Sq) (p : Pq) : Sq := if p.a > x.a ∧ p.a ≤ x.s then { x with q := x.q.drop (p.a - x.a).toNat, a := p.a } else x
def Sq.take (x : Sq) (p : Pq) : Sq × List Int × Bool :=
  if p.b < x.p then (x, [], false)
  else if p.p ≠ (x.meet p).b then (x.meet p, [], false)
  else if p.s ≠ ((x.meet p).ack p).e ∨ ((x.meet p).ack p).e ≥ MX then ((x.meet p).ack p, [], false)
  else ({ (x.meet p).ack p with e := ((x.meet p).ack p).e + 1 }, p.l, true)
def Sq.send (x : Sq) (l : List Int) : Sq := { x with s := x.s + 1, q := x.q ++ [l] }
def Sq.again (x : Sq) : List Pq := (List.range x.q.length).map fun (i : Nat) => x.pk (x.a + (i : Int) + 1) (x.q.getD i [])
end Go.Abs

/- Rows a variable's slices own; what is struck out of a block. -/
set_option linter.unusedVariables false
set_option linter.unusedSimpArgs false
namespace Go.Abs
section
variable {P : Program} {N : Nat} {ops : Array Oper} {l : List Oper} {Q : Exit → Tm → List Ob → Prop} {tm : Tm} {S : List Ob}
theorem AOps.rowBq {j j' i n cap sz : Nat} {ds es : List D} {xs : List (List D)} {b : List D} {S' : List Ob} (hj' : S[j']? = some (.box es)) (hi : es[i]? = some (.bq j 0 n cap)) (hj : S[j]? = some (.box ds)) (hne : Nat.beq j j' = false) (hds : ds = xs.flatten ++ b) (hn : xs.length = n) (hcap : cap * sz ≤ ds.length) (hsz : ∀ x ∈ xs, x.length = sz)
    (hone : ∀ x ∈ xs, ∀ d ∈ x, d.one = true) (hS : (S.set j (.row n sz)).set j' (.box (es.set i (.sl none xs (.own j)))) = S') (h : AOps P N ops l Q tm S') : AOps P N ops l Q tm S := by
  subst hS
  intro ro g a w st
  have hne' : j ≠ j' := by rintro rfl; rw [Nat.beq_refl] at hne; cases hne
  obtain ⟨b0, cs, T, e1, e2, e3, e4, e5, e6⟩ := st.sim.obs j _ hj
  obtain ⟨b1, cs1, T1, f1, f2, f3, f4, f5, f6⟩ := st.sim.obs j' _ hj'
  have hjl : j < S.length := (List.getElem?_eq_some_iff.1 hj).1
  have hjl' : j' < S.length := (List.getElem?_eq_some_iff.1 hj').1
  obtain ⟨hs, hhs⟩ : ∃ hs, hs = Value.slice (some ⟨b0, 0, none⟩) n cap := ⟨_, rfl⟩
  obtain ⟨g', hg'⟩ : ∃ g' : G, g' = { g with lim := fun x => if x = b0 then n * sz else g.lim x, row := upd g.row j (some (n, hs)) } := ⟨_, rfl⟩
  have hb : b0 < w.heap.size := (st.sim.own b0 j e2).2
  have hb01 : b1 ≠ b0 := by rintro rfl; rw [e2] at f2; cases f2; exact hne' rfl
  have hncap : n ≤ cap := by
    have hil : i < es.length := (List.getElem?_eq_some_iff.1 hi).1
    have hr := f6 i _ _ (Array.getElem?_eq_getElem (show i < cs1.size by omega)) hi
    generalize cs1[i]'(by omega) = v at hr
    cases hr with
    | bq _ h => exact h
  have hrow : ∀ l, l ≠ j → g'.row l = g.row l := fun l hl => by rw [hg']; simp only; rw [upd_other _ _ hl]
  have hle : Le g w g' w := by
    refine ⟨fun ad v hv => ⟨hv.1, ?_, hv.2.2⟩, fun l b h => by rw [hg']; exact h, fun l n x e => ?_⟩
    · rw [hg']; simp only
      split
      · rename_i h; have := hv.2.1; rw [h, e5.1] at this; omega
      · exact hv.2.1
    · have hl : l ≠ j := by rintro rfl; rw [e5.2] at e; cases e
      exact ⟨n, x, (hrow l hl).trans e, .inr ⟨rfl, rfl⟩⟩
  have hlater : Later g w g' w := ⟨hle, ⟨Nat.le_refl _, rfl, rfl, rfl, fun x hx ho => ⟨rfl, by rw [hg']; simp only; rw [if_neg (by rintro rfl; rw [e2] at ho; cases ho)], by rw [hg']; exact ho⟩, fun x l hx ho => by rw [hg']; exact ho, by rw [hg']⟩⟩
  have hsl : ∀ v, Rep g w v (.bq j 0 n cap) → Rep g' w v (.sl none xs (.own j)) := by
    intro v r
    cases r with
    | bq hb' hcap' =>
      rw [e1] at hb'; cases hb'
      have key : ∀ (i : Nat) (x : List D), xs[i]? = some x → ∀ (j : Nat) (d : D), x[j]? = some d → i * sz + j < n * sz ∧ ∃ u, cs[i * sz + j]? = some u ∧ Rep g w u d := fun i x hx j d hd => by
        have h1 := flat_get hsz hx hd
        have h2 : ds[i * sz + j]? = some d := by rw [hds, List.getElem?_append_left (List.getElem?_eq_some_iff.1 h1).1]; exact h1
        have h3 : i * sz + j < cs.size := Nat.lt_of_lt_of_le (List.getElem?_eq_some_iff.1 h2).1 e4
        have h4 := (List.getElem?_eq_some_iff.1 h1).1
        rw [flat_len hsz, hn] at h4
        exact ⟨h4, _, Array.getElem?_eq_getElem h3, e6 _ _ _ (Array.getElem?_eq_getElem h3) h2⟩
      refine .sl sz (fun i j => cs.getD (i * sz + j) undef) hn hcap' (fun e => by cases e) (fun b h => by cases h) hsz (fun i x hx j d hd => ?_) (fun i x hx j d hd => ?_) ⟨n, hs, by rw [hg']; simp only [upd_same], Nat.le_refl _, fun _ => hhs.symm⟩
      · obtain ⟨k0, u, k1, k2⟩ := key i x hx j d hd
        have q2 : cs.getD (i * sz + j) undef = u := by rw [Array.getD_eq_getD_getElem?, k1]; rfl
        refine ⟨_, rfl, ?_, ?_, ?_⟩
        · rw [add_lit, q2, Nat.zero_add]; simp only [World.cell?, e3]; simpa using k1
        · rw [add_lit, Nat.zero_add, hg']; simp only [if_true]; exact k0
        · rw [q2]; exact rep_one k2 (hone x (List.mem_of_getElem? hx) d (List.mem_of_getElem? hd))
      · obtain ⟨k0, u, k1, k2⟩ := key i x hx j d hd
        have q2 : cs.getD (i * sz + j) undef = u := by rw [Array.getD_eq_getD_getElem?, k1]; rfl
        rw [q2]; exact k2.mono hle
  have hsim : Sim g' w ((S.set j (.row n sz)).set j' (.box (es.set i (.sl none xs (.own j))))) := by
    refine ⟨fun l ob hl => ?_, fun l hl => by rw [hg']; exact st.sim.noEta l (by simpa using hl), fun l hl => ?_, fun x l ho => ?_, fun x hx => ?_⟩
    · by_cases e' : l = j'
      · subst e'
        rw [List.getElem?_set_self (by simpa using hjl')] at hl
        cases hl
        refine ⟨b1, cs1, T1, hle.eta _ _ f1, by rw [hg']; exact f2, f3, by simpa using f4, ⟨by rw [hg']; simp only; rw [if_neg hb01]; exact f5.1, (hrow l (fun e => hne' e.symm)).trans f5.2⟩, fun k v d hv hd => ?_⟩
        by_cases ek : k = i
        · subst ek
          rw [List.getElem?_set_self (List.getElem?_eq_some_iff.1 hi).1] at hd
          cases hd
          exact hsl v (f6 k v _ hv hi)
        · rw [List.getElem?_set_ne (by omega)] at hd
          exact (f6 k v d hv hd).mono hle
      · rw [List.getElem?_set_ne (by omega)] at hl
        by_cases e : l = j
        · subst e
          rw [List.getElem?_set_self hjl] at hl
          cases hl
          refine ⟨some ⟨b0, 0, none⟩, cap, by rw [hg']; simp only [upd_same]; rw [hhs], hncap, fun e => by (cases e), .inr ⟨b0, 0, cs, T, rfl, by rw [hg']; exact e2, e3, by omega, by rw [hg']; simp only [if_true]; omega⟩⟩
        · rw [List.getElem?_set_ne (by omega)] at hl
          refine (st.sim.obs l ob hl).keep hle (.refl w) (fun x ho => ⟨rfl, ?_, by rw [hg']; exact ho⟩) (fun n h e' => by rw [hrow l e]; exact e') (fun k2 => ⟨by rw [hrow l e]; exact k2, fun k1 => by rw [hg']; exact k1⟩)
          rw [hg']; simp only; rw [if_neg (by rintro rfl; rw [e2] at ho; cases ho; exact e rfl)]
    · rw [hrow l (by rintro rfl; simp at hl; omega)]; exact st.sim.noRow l (by simpa using hl)
    · rw [hg'] at ho
      rw [List.length_set, List.length_set]; exact st.sim.own x l ho
    · rw [hg']; simp only; rw [if_neg (by omega)]; exact st.sim.lim x hx
  have st2 : St N g' tm ((S.set j (.row n sz)).set j' (.box (es.set i (.sl none xs (.own j))))) a w := by
    refine ⟨st.size, by rw [hg']; exact st.based, st.once, fun d hd => ?_, fun i => (st.slots i).mono hle, hsim⟩
    obtain ⟨b, k1, k2, k3, k4⟩ := st.defers d hd
    exact ⟨b, k1, by rw [hg']; exact k2, by rw [hg']; exact k3, k4⟩
  exact wpList_mono (fun e a' w2 k => Post.later hlater k) _ _ _ (h ro _ a w st2)
section ops
variable {t : Tmp} {ty : TypeId} {pos : String} {after : Array Edge}
end ops
end
end Go.Abs

/- A variable with its value, made at a place that was kept for it. -/
set_option linter.unusedVariables false
namespace Go.Abs
variable {P : Program} {N : Nat} {ops : Array Oper} {l : List Oper} {Q : Exit → Tm → List Ob → Prop} {tm : Tm} {S : List Ob}
section
variable {ty : TypeId} {pos : String} {after : Array Edge} {t : Nat}
end
end Go.Abs

/- An array of zero values, built of nothing. -/
set_option linter.unusedVariables false
namespace Go.Abs
variable {P : Program} {N : Nat} {ops : Array Oper} {l : List Oper} {Q : Exit → Tm → List Ob → Prop} {tm : Tm} {S : List Ob}
theorem AOps.forget {tm' : Tm} (h : AOps P N ops l Q tm' S) (e : FLe tm tm') : AOps P N ops l Q tm S := fun ro g a w st => h ro g a w (st.forget e)
theorem AOps.abs (h : ∀ o : Array Oper, o = ops → AOps P N o l Q tm S) : AOps P N ops l Q tm S := h ops rfl
section
variable {ty : TypeId} {pos : String} {after : Array Edge} {t : Nat}
end
end Go.Abs

/- Plain: messages, and which are the same. -/
set_option linter.unusedVariables false
namespace Go.Abs
abbrev Q4 := Int × Int × Int × Int
abbrev q4 (q : Q4) : List D := [vi q.1, vi q.2.1, vi q.2.2.1, vi q.2.2.2]
abbrev q2 (q : Int × Int) : List D := [vi q.1, vi q.2]
abbrev q1 (n : Int) : List D := [vi n]
abbrev qt (t : List Q4 × Int) : List D := [.sl none (t.1.map q4) .ro, vi t.2]
structure Tx where
  e : Int
  i : Int
  b : Int
  r : List (Int × Int)
  v : List Int
structure Wr where
  kd : Int
  rg : Int
  rq : Int
  ep : Int
  to : Int
  dd : Int
  fl : Bool
  er : Int
  tx : Tx
  ke : Int
  ki : Int
  ln : Int
  vc : List Int
  nm : Int
  tb : List (List Q4 × Int)
  pt : Int
  ps : Int
  en : List Q4
  ch : Int
  by_ : List Int
abbrev txz (t : Tx) : List D := [vi t.e, vi t.i, vi t.b, .sl none (t.r.map q2) .ro, .sl none (t.v.map q1) .ro]
abbrev wz (w : Wr) : List D :=
  [vi w.kd, vi w.rg, vi w.rq, vi w.ep, vi w.to, vi w.dd, vb w.fl, vi w.er, vi w.tx.e, vi w.tx.i, vi w.tx.b, .sl none (w.tx.r.map q2) .ro, .sl none (w.tx.v.map q1) .ro, vi w.ke, vi w.ki, vi w.ln,
    .sl none (w.vc.map q1) .ro, vi w.nm, .sl none (w.tb.map qt) .ro, vi w.pt, vi w.ps, .sl none (w.en.map q4) .ro, vi w.ch, bys w.by_]
theorem eq_take {α : Type} {l m : List α} {i : Nat} {x : α} (h : l.take i = m.take i) (hx : l[i]? = some x) (hy : m[i]? = some x) : l.take (i + 1) = m.take (i + 1) := by
  rw [List.take_add_one, List.take_add_one, h, hx, hy]
theorem eq_all {α : Type} {l m : List α} (hl : l.length = m.length) (h : l.take l.length = m.take l.length) : l = m := by
  rw [List.take_length] at h; rw [h, hl, List.take_length]
theorem ne_at {α : Type} {l m : List α} {i : Nat} {x y : α} (hx : l[i]? = some x) (hy : m[i]? = some y) (h : x ≠ y) : l ≠ m := by
  rintro rfl; rw [hx] at hy; exact h (Option.some.inj hy)
theorem ne_len {α : Type} {l m : List α} (h : l.length ≠ m.length) : l ≠ m := fun e => h (by rw [e])
end Go.Abs
namespace Go.Abs
def sameT (a b : Tx) : Bool := decide (a.e = b.e) && decide (a.i = b.i) && decide (a.b = b.b) && decide (a.r = b.r) && decide (a.v = b.v)
def sameW (a b : Wr) : Bool :=
  decide (a.kd = b.kd) && decide (a.rg = b.rg) && decide (a.rq = b.rq) && decide (a.ep = b.ep) && decide (a.to = b.to) && decide (a.dd = b.dd) && decide (a.fl = b.fl) && decide (a.er = b.er) && sameT a.tx b.tx && (decide (a.ke = b.ke) && decide (a.ki = b.ki)) && decide (a.ln = b.ln) &&
    decide (a.vc = b.vc) && decide (a.nm = b.nm) && decide (a.tb = b.tb) && decide (a.pt = b.pt) && decide (a.ps = b.ps) && decide (a.en = b.en) && decide (a.ch = b.ch) && decide (a.by_ = b.by_)
theorem sameT_self (a : Tx) : sameT a a = true := by simp [sameT]
theorem sameW_self (a : Wr) : sameW a a = true := by simp [sameW, sameT_self]
structure Wr.Sz (w : Wr) : Prop where
  r : w.tx.r.length ≤ 1048576
  v : w.tx.v.length ≤ 1048576
  c : w.vc.length ≤ 1048576
  t : w.tb.length ≤ 1048576
  s : ∀ t ∈ w.tb, t.1.length ≤ 1048576
  e : w.en.length ≤ 1048576
  l : L40 w.by_
  b : Byt w.by_
  m : w.by_.length ≤ 1048576
end Go.Abs
namespace Go.Abs
def Sca (a b : Wr) : Prop := a.kd = b.kd ∧ a.rg = b.rg ∧ a.rq = b.rq ∧ a.ep = b.ep ∧ a.to = b.to ∧ a.dd = b.dd ∧ a.fl = b.fl ∧ a.er = b.er ∧ a.ke = b.ke ∧ a.ki = b.ki ∧ a.ln = b.ln ∧ a.nm = b.nm ∧ a.pt = b.pt ∧ a.ps = b.ps ∧ a.ch = b.ch
def Lis (a b : Wr) : Prop := sameT a.tx b.tx = true ∧ a.vc = b.vc ∧ a.en = b.en ∧ a.by_ = b.by_
theorem sameW_iff {a b : Wr} : sameW a b = true ↔ Sca a b ∧ Lis a b ∧ a.tb = b.tb := by
  unfold sameW Sca Lis
  simp only [Bool.and_eq_true, decide_eq_true_eq]
  constructor
  · rintro ⟨⟨⟨⟨⟨⟨⟨⟨⟨⟨⟨⟨⟨⟨⟨⟨⟨⟨h1, h2⟩, h3⟩, h4⟩, h5⟩, h6⟩, h7⟩, h8⟩, h9⟩, h10, h11⟩, h12⟩, h13⟩, h14⟩, h15⟩, h16⟩, h17⟩, h18⟩, h19⟩, h20⟩
    exact ⟨⟨h1, h2, h3, h4, h5, h6, h7, h8, h10, h11, h12, h14, h16, h17, h19⟩, ⟨h9, h13, h18, h20⟩, h15⟩
  · rintro ⟨⟨h1, h2, h3, h4, h5, h6, h7, h8, h10, h11, h12, h14, h16, h17, h19⟩, ⟨h9, h13, h18, h20⟩, h15⟩
    exact ⟨⟨⟨⟨⟨⟨⟨⟨⟨⟨⟨⟨⟨⟨⟨⟨⟨⟨h1, h2⟩, h3⟩, h4⟩, h5⟩, h6⟩, h7⟩, h8⟩, h9⟩, h10, h11⟩, h12⟩, h13⟩, h14⟩, h15⟩, h16⟩, h17⟩, h18⟩, h19⟩, h20⟩
theorem sameW_no {a b : Wr} (h : Sca a b → Lis a b → a.tb = b.tb → False) : sameW a b = false := by
  rw [Bool.eq_false_iff]
  intro q
  obtain ⟨h1, h2, h3⟩ := sameW_iff.1 q
  exact h h1 h2 h3
end Go.Abs

/- Plain: tables of offsets. -/
set_option linter.unusedVariables false
namespace Go.Abs
structure Sp where
  e : Int
  r : Int
  p : Int
  o : Int
abbrev spz (x : Sp) : List D := [vi x.e, vi x.r, vi x.p, vi x.o]
structure Tb where
  l : List Sp
  n : Int
abbrev tz (t : Tb) : D := .agg [.sl none (t.l.map spz) .ro, vi t.n]
namespace Tb
def num (n : Int) : Bool := decide (n ≥ 0) && decide (n ≤ 9007199254740992)
theorem num_iff {n : Int} : num n = true ↔ 0 ≤ n ∧ n ≤ 9007199254740992 := by simp [num]
def nth (t : Tb) (i : Nat) : Sp := t.l.getD i ⟨0, 0, 0, 0⟩
theorem nth_at {t : Tb} {i : Nat} (h : i < t.l.length) : t.l[i]? = some (t.nth i) := by
  unfold nth; rw [List.getD_eq_getElem?_getD, List.getElem?_eq_getElem h]; rfl
/-- Where the i-th span ends. -/
def fin (t : Tb) (i : Nat) : Int := if i + 1 < t.l.length then (t.nth (i + 1)).p else t.n
def last (t : Tb) (i : Nat) : Int := (t.nth i).o + (t.fin i - (t.nth i).p - 1)
def sp1 (x : Sp) : Bool := decide (1 ≤ x.e) && decide (x.e ≤ 9007199254740992) && decide (0 ≤ x.r) && decide (x.r < 2) && num x.p && num x.o
theorem sp1_iff {x : Sp} : sp1 x = true ↔ (1 ≤ x.e ∧ x.e ≤ 9007199254740992) ∧ (0 ≤ x.r ∧ x.r < 2) ∧ (0 ≤ x.p ∧ x.p ≤ 9007199254740992) ∧ (0 ≤ x.o ∧ x.o ≤ 9007199254740992) := by
  unfold sp1; simp only [Bool.and_eq_true, decide_eq_true_eq, num_iff]; omega
def wide (t : Tb) (i : Nat) : Bool := decide (t.fin i > (t.nth i).p) && decide (t.last i ≤ 9007199254740992)
def single (t : Tb) (i : Nat) : Bool := sp1 (t.nth i) && (decide (t.l.length ≤ i + 1) || num (t.nth (i + 1)).p) && t.wide i
def follows (t : Tb) (i : Nat) : Bool :=
  decide ((t.nth (i - 1)).e ≤ (t.nth i).e) && (decide ((t.nth (i - 1)).e ≠ (t.nth i).e) || decide ((t.nth (i - 1)).r = (t.nth i).r)) && decide (t.last (i - 1) < (t.nth i).o) && (decide ((t.nth (i - 1)).e ≠ (t.nth i).e) || decide ((t.nth i).o ≠ t.last (i - 1) + 1))
def okAt (t : Tb) (i : Nat) : Bool := t.single i && (Nat.beq i 0 || t.follows i)
def good (t : Tb) : Bool := num t.n && decide (t.l.length ≤ 4096) && (List.range t.l.length).all t.okAt
def chk (t : Tb) : Int := if t.good = true then 0 else 200
/-- What the arithmetic of one span needs. -/
structure InB (t : Tb) (i : Nat) : Prop where
  lt : i < t.l.length
  p : 0 ≤ (t.nth i).p ∧ (t.nth i).p ≤ 9007199254740992
  o : 0 ≤ (t.nth i).o ∧ (t.nth i).o ≤ 9007199254740992
  f : 0 ≤ t.fin i ∧ t.fin i ≤ 9007199254740992
theorem single_in {t : Tb} {i : Nat} (hn : num t.n = true) (hi : i < t.l.length) (h : t.single i = true) : t.InB i := by
  unfold single at h
  simp only [Bool.and_eq_true, Bool.or_eq_true, decide_eq_true_eq, sp1_iff] at h
  refine ⟨hi, h.1.1.2.2.1, h.1.1.2.2.2, ?_⟩
  unfold fin
  split
  · rcases h.1.2 with h2 | h2
    · omega
    · exact num_iff.1 h2
  · exact num_iff.1 hn
theorem inb_of {t : Tb} {i : Nat} (hn : num t.n = true) (hi : i < t.l.length) (hs : sp1 (t.nth i) = true) (hx : (decide (t.l.length ≤ i + 1) || num (t.nth (i + 1)).p) = true) : t.InB i := by
  rw [sp1_iff] at hs
  refine ⟨hi, hs.2.2.1, hs.2.2.2, ?_⟩
  unfold fin
  split
  · rw [Bool.or_eq_true, decide_eq_true_eq] at hx
    rcases hx with h2 | h2
    · omega
    · exact num_iff.1 h2
  · exact num_iff.1 hn
theorem okAt_false {t : Tb} {i : Nat} (h : t.okAt i = true → False) : t.okAt i = false := by
  cases hq : t.okAt i with
  | false => rfl
  | true => exact (h hq).elim
theorem okAt_iff {t : Tb} {i : Nat} : t.okAt i = true ↔ t.single i = true ∧ (i = 0 ∨ ((t.nth (i - 1)).e ≤ (t.nth i).e ∧ ((t.nth (i - 1)).e ≠ (t.nth i).e ∨ (t.nth (i - 1)).r = (t.nth i).r) ∧ t.last (i - 1) < (t.nth i).o ∧ ((t.nth (i - 1)).e ≠ (t.nth i).e ∨ (t.nth i).o ≠ t.last (i - 1) + 1))) := by
  unfold okAt follows
  simp only [Bool.and_eq_true, Bool.or_eq_true, decide_eq_true_eq, and_assoc]
  rw [show ((i.beq 0 = true) ↔ i = 0) from ⟨Nat.eq_of_beq_eq_true, fun h => by subst h; rfl⟩]
theorem single_last {t : Tb} {i : Nat} (hn : num t.n = true) (hi : i < t.l.length) (h : t.single i = true) : 0 ≤ t.last i ∧ t.last i ≤ 9007199254740992 := by
  have hb := single_in hn hi h
  have hp := hb.p; have ho := hb.o
  unfold single wide at h
  simp only [Bool.and_eq_true, decide_eq_true_eq] at h
  have h2 := h.2
  have e : t.last i = (t.nth i).o + (t.fin i - (t.nth i).p - 1) := rfl
  omega
theorem single_sp1 {t : Tb} {i : Nat} (h : t.okAt i = true) : sp1 (t.nth i) = true := by
  unfold okAt single at h
  simp only [Bool.and_eq_true] at h
  exact h.1.1.1
theorem good_at {t : Tb} (h : t.good = true) {i : Nat} (hi : i < t.l.length) : t.okAt i = true := by
  unfold good at h
  simp only [Bool.and_eq_true] at h
  exact List.all_eq_true.1 h.2 i (List.mem_range.2 hi)
theorem good_num {t : Tb} (h : t.good = true) : (0 ≤ t.n ∧ t.n ≤ 9007199254740992) ∧ t.l.length ≤ 4096 := by
  unfold good at h
  simp only [Bool.and_eq_true, decide_eq_true_eq] at h
  exact ⟨num_iff.1 h.1.1, h.1.2⟩
theorem chk_yes {t : Tb} (h : num t.n = true) (h2 : t.l.length ≤ 4096) (h3 : ∀ i, i < t.l.length → t.okAt i = true) : t.chk = 0 := by
  unfold chk good
  rw [h, decide_eq_true h2, List.all_eq_true.2 (fun i hi => h3 i (List.mem_range.1 hi))]; rfl
theorem chk_no {t : Tb} {i : Nat} (hi : i < t.l.length) (h : t.okAt i = false) : t.chk = 200 := by
  unfold chk
  rw [if_neg (fun hg => by have := good_at hg hi; rw [h] at this; cases this)]
theorem chk_num {t : Tb} (h : num t.n = false ∨ t.l.length > 4096) : t.chk = 200 := by
  unfold chk
  rw [if_neg (fun hg => by
    have := good_num hg
    rcases h with h | h
    · have h2 := num_iff.2 this.1; rw [h] at h2; cases h2
    · omega)]
def new (n : Int) : Tb := ⟨[], if num n = true then n else 0⟩
def may (t : Tb) : Tb := if t.chk ≠ 0 then new 0 else t
def start (t : Tb) : Int := if (may t).l.length = 0 then (may t).n else ((may t).nth 0).p
theorem good_chk {t : Tb} : t.chk = 0 ↔ t.good = true := by
  unfold chk; split
  · rename_i h; exact ⟨fun _ => h, fun _ => rfl⟩
  · rename_i h; exact ⟨fun h2 => by simp at h2, fun h2 => absurd h2 h⟩
theorem rise {t : Tb} (h : t.good = true) {i : Nat} (hi : i < t.l.length) : (t.nth i).p < t.fin i := by
  have := good_at h hi
  unfold okAt single wide at this
  simp only [Bool.and_eq_true, decide_eq_true_eq] at this
  exact this.1.2.1
theorem fin_next {t : Tb} {i : Nat} (h : i + 1 < t.l.length) : t.fin i = (t.nth (i + 1)).p := by unfold fin; rw [if_pos h]
theorem rises {t : Tb} (h : t.good = true) : ∀ (d i : Nat), i + d < t.l.length → (t.nth i).p + d ≤ (t.nth (i + d)).p
  | 0, i, hi => by simp
  | d + 1, i, hi => by
    have h1 := rises h d i (by omega)
    have h2 := rise h (i := i + d) (by omega)
    rw [fin_next (by omega)] at h2
    have e : i + (d + 1) = i + d + 1 := by omega
    rw [e]; omega
/-- How many spans begin ahead of x. -/
def lb (t : Tb) (x : Int) : Nat := (List.range t.l.length).countP fun i => decide ((t.nth i).p < x)
/-- The span in which x lies. -/
def idx (t : Tb) (x : Int) : Nat := if t.lb x < t.l.length ∧ (t.nth (t.lb x)).p = x then t.lb x else t.lb x - 1
def errF (t : Tb) (x : Int) : Int := if x < t.start then 7 else if x ≥ t.n then 4 else 0
def off (t : Tb) (x : Int) : Int := if t.errF x ≠ 0 then 0 else (t.nth (t.idx x)).o + (x - (t.nth (t.idx x)).p)
def ze : Sp := ⟨0, 0, 0, 0⟩
def spAt (t : Tb) (x : Int) : Sp := if t.errF x ≠ 0 then ze else t.nth (t.idx x)
/-- The span whose offsets hold x. -/
def oin (t : Tb) (x : Int) (i : Nat) : Prop := (t.nth i).o ≤ x ∧ x ≤ t.last i
instance (t : Tb) (x : Int) (i : Nat) : Decidable (t.oin x i) := inferInstanceAs (Decidable (_ ∧ _))
def pidx (t : Tb) (x : Int) : Option Nat := (List.range t.l.length).find? fun i => decide (t.oin x i)
def errP (t : Tb) (x : Int) : Int := if t.l.length = 0 ∨ x < (t.nth 0).o then 7 else if (t.pidx x).isSome = true then 0 else 4
def pos (t : Tb) (x : Int) : Int := match t.pidx x with | some i => if t.l.length = 0 ∨ x < (t.nth 0).o then 0 else (t.nth i).p + (x - (t.nth i).o) | none => 0
/-- The spans from the last to the first, with their numbers. -/
def back (t : Tb) : List (Int × Sp) := (List.range t.l.length).map fun k => (((t.l.length - 1 - k : Nat) : Int), t.nth (t.l.length - 1 - k))
end Tb
theorem ren_tz {ρ σ : Nat → Nat → Prop} {nl : Option Bool} {c : Cap} {l : List Sp} {n : Int} : Ren ρ σ (.agg [.sl nl (l.map spz) c, vi n]) (tz ⟨l, n⟩) := .agg rfl (RenAll.get (.cons (ren_map (f := spz) (fun _ => rfl)) (.cons (.lf (.val _)) .nil)))
theorem ren_tz0 {ρ σ : Nat → Nat → Prop} {nl : Option Bool} {c : Cap} {n m : Int} (h : n = m) : Ren ρ σ (.agg [.sl nl [] c, vi n]) (tz ⟨[], m⟩) := by subst h; exact .agg rfl (RenAll.get (.cons (.ro (fun x h => by cases h)) (.cons (.lf (.val _)) .nil)))
theorem lf_tz (t : Tb) : LF (tz t) := .agg (lf_cons (lf_map (f := spz) (fun _ => rfl) (.inl rfl)) (lf_cons (.val _) lf_nil))
end Go.Abs

/- Plain: what is common to two tables; one position more. -/
set_option linter.unusedVariables false
namespace Go.Abs
namespace Tb
/-- Where the span of x ends. -/
def beh (t : Tb) (x : Int) : Int := t.fin (t.idx x)
def whose (t : Tb) (x : Int) : Int × Int := ((t.spAt x).e, (t.spAt x).r)
def lo (a b : Tb) : Int := if a.start < b.start then b.start else a.start
def hi (a b : Tb) : Int := if b.n < a.n then b.n else a.n
def com (a b : Tb) : Int := match (List.range (hi a b - lo a b).toNat).find? (fun k : Nat => !(decide (a.whose (lo a b + (k : Int)) = b.whose (lo a b + (k : Int))))) with
  | some k => lo a b + (k : Int)
  | none => hi a b
/-- The offset in one log of what has an offset in the other. -/
def trE (a b : Tb) (x : Int) : Int := if a.may.errP x ≠ 0 then a.may.errP x else if a.may.pos x ≥ com a.may b.may then 4 else b.may.errF (a.may.pos x)
def tr (a b : Tb) (x : Int) : Int := if a.may.errP x ≠ 0 then 0 else if a.may.pos x ≥ com a.may b.may then 0 else b.may.off (a.may.pos x)
/-- One position more. -/
def addE (t : Tb) (e r o : Int) : Int :=
  if e < 1 ∨ e > 9007199254740992 ∨ r < 0 ∨ r ≥ 2 ∨ num o = false then 1
  else if t.n = 9007199254740992 then 6
  else if t.l.length = 0 then 0
  else if e < (t.nth (t.l.length - 1)).e ∨ (e = (t.nth (t.l.length - 1)).e ∧ r ≠ (t.nth (t.l.length - 1)).r) ∨ o ≤ t.last (t.l.length - 1) then 7
  else if e = (t.nth (t.l.length - 1)).e ∧ o - 1 = t.last (t.l.length - 1) then 0
  else if t.l.length ≥ 4096 then 3 else 0
def joins (t : Tb) (e o : Int) : Prop := 0 < t.l.length ∧ e = (t.nth (t.l.length - 1)).e ∧ o - 1 = t.last (t.l.length - 1)
instance (t : Tb) (e o : Int) : Decidable (t.joins e o) := inferInstanceAs (Decidable (_ ∧ _))
def addT (t : Tb) (e r o : Int) : Tb :=
  if t.addE e r o ≠ 0 then t else if t.joins e o then ⟨t.l, t.n + 1⟩ else ⟨t.l ++ [⟨e, r, t.n, o⟩], t.n + 1⟩
end Tb
end Go.Abs
namespace Go.Abs
namespace Tb
/-- Of the spans looked at so far, from the last on, each begins behind x. -/
def late (t : Tb) (x : Int) (k : Nat) : Prop := ∀ j, j < k → x < (t.nth (t.l.length - 1 - j)).o
instance (t : Tb) (x : Int) (k : Nat) : Decidable (t.late x k) := inferInstanceAs (Decidable (∀ j, j < k → _))
def bt : Nat → Tb
  | 0 => ⟨[], 0⟩
  | 1 => ⟨[⟨1, 0, 0, 100⟩], 1⟩
  | 2 => ⟨[⟨1, 0, 0, 100⟩], 2⟩
  | _ => ⟨[⟨1, 0, 0, 100⟩, ⟨2, 1, 2, 102⟩], 3⟩
def bq : List Sp := [⟨1, 0, 0, 100⟩, ⟨1, 0, 0, 101⟩, ⟨2, 1, 0, 102⟩]
def bt5 : Tb := ⟨[⟨1, 0, 0, 100⟩], 5⟩
end Tb
end Go.Abs
namespace Go.Abs
namespace Tb
end Tb
end Go.Abs

/- Plain: all positions, as they are told. -/
set_option linter.unusedVariables false
namespace Go.Abs
namespace Tb
def tellAt (t : Tb) (x : Int) : Sp := ⟨(t.spAt x).e, (t.spAt x).r, x, t.off x⟩
def alls (t : Tb) : List (Int × Sp) := (List.range (t.n - t.start).toNat).map fun k : Nat => (t.start + (k : Int), t.tellAt (t.start + (k : Int)))
/-- How many positions lie ahead of the i-th span. -/
def cnt (t : Tb) (i : Nat) : Nat := ((if i < t.l.length then (t.nth i).p else t.n) - t.start).toNat
end Tb
abbrev pz (p : Int × Sp) : List D := [vi p.1, .agg (spz p.2)]
abbrev qz (p : Int × Sp) : List D := spz p.2
theorem lf_rpt {l : List Sp} {n : Int} : ∀ d ∈ [D.sl none (l.map spz) .ro, vi n], LF d := lf_cons (lf_map (f := spz) (fun _ => rfl) (.inl rfl)) (lf_cons (.val _) lf_nil)
end Go.Abs

/- Plain: a table's bytes. -/
set_option linter.unusedVariables false
namespace Go.Abs
abbrev I6 (n : Int) : Prop := -9223372036854775808 ≤ n ∧ n ≤ 9223372036854775807
theorem forms_add (a b : List Int) : forms (a ++ b) = forms a ++ forms b := by simp [forms]
namespace Sp
def four (s : Sp) : List Int := [s.e, s.r, s.p, s.o]
theorem four_i64 {s : Sp} (h : Tb.sp1 s = true) : ∀ n ∈ s.four, I6 n := by
  rw [Tb.sp1_iff] at h
  intro n hn
  simp only [four, List.mem_cons, List.not_mem_nil, or_false] at hn
  rcases hn with rfl | rfl | rfl | rfl <;> constructor <;> omega
end Sp
namespace Tb
def upto (t : Tb) (i : Nat) : List Int := t.n :: (t.l.length : Int) :: (t.l.take i).flatMap Sp.four
def bytes (t : Tb) : List Int := if t.chk ≠ 0 then [] else forms (t.upto t.l.length)
theorem upto_next {t : Tb} {i : Nat} (h : i < t.l.length) : t.upto (i + 1) = t.upto i ++ (t.nth i).four := by
  unfold upto
  rw [take_snoc (nth_at h)]; simp
theorem upto_i64 {t : Tb} (h : t.good = true) (i : Nat) : ∀ n ∈ t.upto i, I6 n := by
  have hn := good_num h
  intro n hm
  unfold upto at hm
  rcases List.mem_cons.1 hm with rfl | hm
  · constructor <;> omega
  · rcases List.mem_cons.1 hm with rfl | hm
    · constructor <;> omega
    · obtain ⟨s, hs, hx⟩ := List.mem_flatMap.1 hm
      obtain ⟨j, hj⟩ := List.getElem?_of_mem (List.mem_of_mem_take hs)
      have hjl := (List.getElem?_eq_some_iff.1 hj).1
      rw [nth_at hjl] at hj
      cases hj
      exact Sp.four_i64 (single_sp1 (good_at h hjl)) n hx
theorem flat4 (l : List Sp) : (l.flatMap Sp.four).length = 4 * l.length := by
  induction l with
  | nil => rfl
  | cons x l ih => rw [List.flatMap_cons, List.length_append, ih, List.length_cons]; simp [Sp.four]; omega
theorem upto_len {t : Tb} (i : Nat) : (t.upto i).length ≤ 2 + 4 * t.l.length := by
  unfold upto
  simp only [List.length_cons, flat4, List.length_take]; omega
theorem forms_small {t : Tb} (h : t.good = true) (i : Nat) : (forms (t.upto i)).length ≤ 163860 := by
  have h1 := forms_len' (t.upto i) (upto_i64 h i)
  have h2 := upto_len (t := t) i
  have h3 := (good_num h).2
  omega
def rds : Nat → Up → List Sp × Up
  | 0, u => ([], u)
  | k + 1, u => if u.e ≠ 0 then ([], u) else
    let r1 := u.w; let r2 := r1.2.w; let r3 := r2.2.w; let r4 := r3.2.w
    ((⟨r1.1, r2.1, r3.1, r4.1⟩ : Sp) :: (rds k r4.2).1, (rds k r4.2).2)
theorem rds_stop {k : Nat} {u : Up} (h : k = 0 ∨ u.e ≠ 0) : rds k u = ([], u) := by
  cases k with
  | zero => rfl
  | succ k => unfold rds; rw [if_pos (by rcases h with h | h; omega; exact h)]
theorem rds_go {k : Nat} {u r1 r2 r3 r4 : Up} {a1 a2 a3 a4 : Int} (h : u.e = 0) (h1 : u.w = (a1, r1)) (h2 : r1.w = (a2, r2)) (h3 : r2.w = (a3, r3)) (h4 : r3.w = (a4, r4)) : rds (k + 1) u = ((⟨a1, a2, a3, a4⟩ : Sp) :: (rds k r4).1, (rds k r4).2) := by
  rw [rds, if_neg (by simp [h])]; simp only [h1, h2, h3, h4]
def parse (b : List Int) : Tb × Int :=
  let r1 := Up.w ⟨b, 0⟩; let r2 := r1.2.int 0 4096; let s := rds r2.1.toNat r2.2
  if s.2.close ≠ 0 then (⟨[], 0⟩, s.2.close) else if (⟨s.1, r1.1⟩ : Tb).chk ≠ 0 then (⟨[], 0⟩, (⟨s.1, r1.1⟩ : Tb).chk) else (⟨s.1, r1.1⟩, 0)
theorem bytes_byt (t : Tb) : Byt t.bytes := by
  unfold bytes; split
  · intro x hx; cases hx
  · exact forms_byt _
theorem bytes_l40 (t : Tb) : L40 t.bytes := by
  unfold bytes; split
  · simp [L40]
  · rename_i h
    have := forms_small (good_chk.1 (by simpa using h)) t.l.length
    simp only [L40]; omega
/-- What has been written of spans is read as it was. -/
theorem rds_forms : ∀ (l : List Sp) (h : ∀ s ∈ l, sp1 s = true) (r : List Int), rds l.length ⟨forms (l.flatMap Sp.four) ++ r, 0⟩ = (l, ⟨r, 0⟩)
  | [], _, r => by simp [rds, forms]
  | s :: l, h, r => by
    have h4 := Sp.four_i64 (h s (by simp))
    simp only [Sp.four, List.mem_cons, List.not_mem_nil, or_false, forall_eq_or_imp, forall_eq] at h4
    obtain ⟨h1, h2, h3, h5⟩ := h4
    have hb : forms ((s :: l).flatMap Sp.four) ++ r = form s.e ++ (form s.r ++ (form s.p ++ (form s.o ++ (forms (l.flatMap Sp.four) ++ r)))) := by
      simp [Sp.four, forms]
    rw [hb, List.length_cons]
    rw [rds_go (u := ⟨_, 0⟩) rfl (Up.w_form h1.1 h1.2 _) (Up.w_form h2.1 h2.2 _) (Up.w_form h3.1 h3.2 _) (Up.w_form h5.1 h5.2 _), rds_forms l (fun x hx => h x (by simp [hx])) r]
theorem parse_bytes {t : Tb} (h : t.chk = 0) : parse t.bytes = (t, 0) := by
  have hg := good_chk.1 h
  have hn := good_num hg
  have hb : t.bytes = form t.n ++ (form (t.l.length : Int) ++ (forms (t.l.flatMap Sp.four) ++ [])) := by
    unfold bytes upto; rw [if_neg (by simp [h]), List.take_length]; simp [forms]
  have hall : ∀ s ∈ t.l, sp1 s = true := fun s hs => by
    obtain ⟨j, hj⟩ := List.getElem?_of_mem hs
    have hjl := (List.getElem?_eq_some_iff.1 hj).1
    rw [nth_at hjl] at hj; cases hj
    exact single_sp1 (good_at hg hjl)
  rw [hb]
  unfold parse
  rw [Up.w_form (by omega) (by omega)]
  dsimp only
  rw [Up.int_form (lo := 0) (hi := 4096) (by omega) (by omega) (by omega) (by omega)]
  dsimp only
  rw [show ((t.l.length : Int)).toNat = t.l.length by omega, rds_forms t.l hall []]
  dsimp only
  rw [show Up.close ⟨[], 0⟩ = 0 from rfl, if_neg (by simp), if_neg (by simp [h])]
def same (a b : Tb) : Bool := decide (a.n = b.n) && decide (a.l.length = b.l.length) && (List.range a.l.length).all fun i => decide ((a.nth i).e = (b.nth i).e) && decide ((a.nth i).r = (b.nth i).r) && decide ((a.nth i).p = (b.nth i).p) && decide ((a.nth i).o = (b.nth i).o)
end Tb
end Go.Abs
namespace Go.Abs
theorem Up.int_rng {u : Up} {lo hi : Int} (h0 : lo ≤ 0) (h1 : 0 ≤ hi) : lo ≤ (u.int lo hi).1 ∧ (u.int lo hi).1 ≤ hi := by
  unfold Up.int
  split
  · exact ⟨h0, h1⟩
  · split
    · exact ⟨h0, h1⟩
    · rename_i h2
      split
      · exact ⟨h0, h1⟩
      · rename_i h3
        have h3 : (firstP u.b).2.2 = 0 := by simpa using h3
        have h4 : ¬ ((firstP u.b).1 < lo ∨ (firstP u.b).1 > hi) := fun h => h2 ⟨h3, h⟩
        constructor <;> dsimp only <;> omega
end Go.Abs
namespace Go.Abs
namespace Tb
end Tb
end Go.Abs

/- Plain: an entry's bytes. -/
set_option linter.unusedVariables false
namespace Go.Abs
namespace En
def okE (x : En) : Prop := (-9223372036854775808 ≤ x.k ∧ x.k ≤ 9223372036854775807) ∧ (-9223372036854775808 ≤ x.v ∧ x.v ≤ 9223372036854775807)
def four (x : En) : List Int := [x.e, x.r, x.k, x.v]
def bytes (x : En) : List Int := if x.chk ≠ 0 then [] else forms x.four
theorem chk_in {x : En} (h : x.chk = 0) : 1 ≤ x.e ∧ x.e ≤ 9007199254740992 ∧ 0 ≤ x.r ∧ x.r < 2 := by
  unfold chk at h
  split at h
  · cases h
  · omega
theorem four_i64 {x : En} (ho : x.okE) (h : x.chk = 0) : ∀ n ∈ x.four, -9223372036854775808 ≤ n ∧ n ≤ 9223372036854775807 := by
  have := chk_in h
  obtain ⟨h1, h2⟩ := ho
  intro n hn
  simp only [four, List.mem_cons, List.not_mem_nil, or_false] at hn
  rcases hn with rfl | rfl | rfl | rfl <;> omega
def z : En := ⟨0, 0, 0, 0⟩
def parse (b : List Int) : En × Int :=
  let r1 := Up.w ⟨b, 0⟩; let r2 := r1.2.w; let r3 := r2.2.w; let r4 := r3.2.w
  if r4.2.close ≠ 0 then (z, r4.2.close) else if (⟨r1.1, r2.1, r3.1, r4.1⟩ : En).chk ≠ 0 then (z, (⟨r1.1, r2.1, r3.1, r4.1⟩ : En).chk) else (⟨r1.1, r2.1, r3.1, r4.1⟩, 0)
theorem bytes_byt (x : En) : Byt x.bytes := by
  unfold bytes; split
  · intro x hx; cases hx
  · exact forms_byt _
theorem bytes_l40 {x : En} (ho : x.okE) : L40 x.bytes := by
  unfold bytes; split
  · simp [L40]
  · rename_i h
    have h6 := four_i64 (x := x) ho (by simpa using h)
    have := forms_len' x.four h6
    simp only [L40, four, List.length_cons, List.length_nil] at *
    omega
theorem parse_bytes {x : En} (ho : x.okE) (h : x.chk = 0) : parse x.bytes = (x, 0) := by
  have h6 := four_i64 ho h
  simp only [four, List.mem_cons, List.not_mem_nil, or_false, forall_eq_or_imp, forall_eq] at h6
  obtain ⟨h1, h2, h3, h4⟩ := h6
  have hb : x.bytes = form x.e ++ (form x.r ++ (form x.k ++ (form x.v ++ []))) := by
    unfold bytes; rw [if_neg (by simp [h])]; simp [four, forms]
  rw [hb]
  simp only [parse, Up.w_form h1.1 h1.2, Up.w_form h2.1 h2.2, Up.w_form h3.1 h3.2, Up.w_form h4.1 h4.2]
  have hc : Up.close ⟨[], 0⟩ = 0 := rfl
  rw [hc, if_neg (by simp)]
  rw [show (⟨x.e, x.r, x.k, x.v⟩ : En) = x from rfl, if_neg (by simp [h])]
end En
end Go.Abs

/- Plain: what is put is read, and what is read was put. -/
set_option linter.unusedVariables false
namespace Go.Abs
structure Codec (α : Type) where
  put : α → List Int
  get : Up → α × Up
  ok : α → Prop
namespace Codec
variable {α β : Type}
structure Law (c : Codec α) : Prop where
  byt : ∀ u, Byt u.b → Byt (c.get u).2.b
  fwd : ∀ a r, c.ok a → c.get ⟨c.put a ++ r, 0⟩ = (a, ⟨r, 0⟩)
  bwd : ∀ u, Byt u.b → (c.get u).2.e = 0 → u.e = 0 ∧ u.b = c.put (c.get u).1 ++ (c.get u).2.b ∧ c.ok (c.get u).1
def int (lo hi : Int) : Codec Int := ⟨form, fun u => u.int lo hi, fun n => lo ≤ n ∧ n ≤ hi⟩
theorem int_law {lo hi : Int} (h0 : -9223372036854775808 ≤ lo) (h1 : hi ≤ 9223372036854775807) : (int lo hi).Law := by
  refine ⟨fun u hu => ?_, fun n r hn => Up.int_form (by have := hn.1; omega) (by have := hn.2; omega) hn.1 hn.2 r, fun u hu he => ?_⟩
  · show Byt (u.int lo hi).2.b
    unfold Up.int
    split
    · exact hu
    · split
      · exact hu
      · split
        · exact hu
        · exact hu.drop _
  · have he' : (u.int lo hi).2.e = 0 := he
    show u.e = 0 ∧ u.b = form (u.int lo hi).1 ++ (u.int lo hi).2.b ∧ lo ≤ (u.int lo hi).1 ∧ (u.int lo hi).1 ≤ hi
    unfold Up.int at he' ⊢
    split at he'
    · rename_i h; exact absurd he' h
    · rename_i h
      rw [if_neg h]
      split at he'
      · simp at he'
      · rename_i h2
        rw [if_neg h2]
        split at he'
        · rename_i h3; exact absurd he' h3
        · rename_i h3
          rw [if_neg h3]
          have h4 : (firstP u.b).2.2 = 0 := by simpa using h3
          refine ⟨by simpa using h, firstP_inv hu h4, ?_⟩
          simp only [h4, true_and, not_or] at h2
          exact ⟨by omega, by omega⟩
def pair (c : Codec α) (d : Codec β) : Codec (α × β) := ⟨fun x => c.put x.1 ++ d.put x.2, fun u => (((c.get u).1, (d.get (c.get u).2).1), (d.get (c.get u).2).2), fun x => c.ok x.1 ∧ d.ok x.2⟩
theorem pair_law {c : Codec α} {d : Codec β} (hc : c.Law) (hd : d.Law) : (pair c d).Law := by
  refine ⟨fun u hu => hd.byt _ (hc.byt u hu), fun x r hx => ?_, fun u hu he => ?_⟩
  · show (((c.get ⟨c.put x.1 ++ d.put x.2 ++ r, 0⟩).1, (d.get (c.get ⟨c.put x.1 ++ d.put x.2 ++ r, 0⟩).2).1), (d.get (c.get ⟨c.put x.1 ++ d.put x.2 ++ r, 0⟩).2).2) = _
    rw [List.append_assoc, hc.fwd _ _ hx.1, hd.fwd _ _ hx.2]
  · obtain ⟨h1, h2, h3⟩ := hd.bwd (c.get u).2 (hc.byt u hu) he
    obtain ⟨k1, k2, k3⟩ := hc.bwd u hu h1
    refine ⟨k1, ?_, k3, h3⟩
    show u.b = c.put (c.get u).1 ++ d.put (d.get (c.get u).2).1 ++ (d.get (c.get u).2).2.b
    rw [List.append_assoc, ← h2, ← k2]
/-- The same, under other names. -/
def map (c : Codec α) (f : α → β) (g : β → α) : Codec β := ⟨fun x => c.put (g x), fun u => (f (c.get u).1, (c.get u).2), fun x => c.ok (g x)⟩
theorem map_law {c : Codec α} {f : α → β} {g : β → α} (hc : c.Law) (h1 : ∀ a, g (f a) = a) (h2 : ∀ b, f (g b) = b) : (map c f g).Law := by
  refine ⟨fun u hu => hc.byt u hu, fun x r hx => ?_, fun u hu he => ?_⟩
  · show (f (c.get ⟨c.put (g x) ++ r, 0⟩).1, (c.get ⟨c.put (g x) ++ r, 0⟩).2) = _
    rw [hc.fwd _ _ hx, h2]
  · obtain ⟨k1, k2, k3⟩ := hc.bwd u hu he
    refine ⟨k1, ?_, ?_⟩
    · show u.b = c.put (g (f (c.get u).1)) ++ _
      rw [h1]; exact k2
    · show c.ok (g (f (c.get u).1))
      rw [h1]; exact k3
def none : Codec Unit := ⟨fun _ => [], fun u => ((), u), fun _ => True⟩
def rdl (c : Codec α) : Nat → Up → List α × Up
  | 0, u => ([], u)
  | n + 1, u => if u.e ≠ 0 then ([], u) else ((c.get u).1 :: (rdl c n (c.get u).2).1, (rdl c n (c.get u).2).2)
theorem rdl_byt {c : Codec α} (hc : c.Law) : ∀ n u, Byt u.b → Byt (rdl c n u).2.b
  | 0, u, h => h
  | n + 1, u, h => by
    unfold rdl
    split
    · exact h
    · exact rdl_byt hc n _ (hc.byt u h)
theorem rdl_fwd {c : Codec α} (hc : c.Law) : ∀ (l : List α) (r : List Int), (∀ a ∈ l, c.ok a) → rdl c l.length ⟨l.flatMap c.put ++ r, 0⟩ = (l, ⟨r, 0⟩)
  | [], r, _ => rfl
  | a :: l, r, h => by
    show rdl c (l.length + 1) _ = _
    unfold rdl
    rw [if_neg (by simp), List.flatMap_cons, List.append_assoc, hc.fwd a _ (h a (List.mem_cons_self ..)), rdl_fwd hc l r (fun b hb => h b (List.mem_cons_of_mem _ hb))]
theorem rdl_bwd {c : Codec α} (hc : c.Law) : ∀ (n : Nat) (u : Up), Byt u.b → (rdl c n u).2.e = 0 → u.e = 0 ∧ u.b = (rdl c n u).1.flatMap c.put ++ (rdl c n u).2.b ∧ (∀ a ∈ (rdl c n u).1, c.ok a) ∧ (rdl c n u).1.length = n
  | 0, u, hu, he => ⟨he, rfl, fun a h => (by cases h), rfl⟩
  | n + 1, u, hu, he => by
    unfold rdl at he ⊢
    split at he
    · rename_i h; exact absurd he h
    · rename_i h
      rw [if_neg h]
      obtain ⟨h1, h2, h3, h4⟩ := rdl_bwd hc n _ (hc.byt u hu) he
      obtain ⟨k1, k2, k3⟩ := hc.bwd u hu h1
      refine ⟨k1, ?_, ?_, ?_⟩
      · dsimp only
        rw [List.flatMap_cons, List.append_assoc, ← h2, ← k2]
      · intro a ha
        rcases List.mem_cons.1 ha with rfl | ha
        · exact k3
        · exact h3 a ha
      · simp [h4]
def list (lo hi : Int) (c : Codec α) : Codec (List α) := ⟨fun l => form (l.length : Int) ++ l.flatMap c.put, fun u => rdl c (u.int lo hi).1.toNat (u.int lo hi).2, fun l => (lo ≤ (l.length : Int) ∧ (l.length : Int) ≤ hi) ∧ ∀ a ∈ l, c.ok a⟩
theorem list_law {lo hi : Int} {c : Codec α} (h0 : 0 ≤ lo) (h1 : hi ≤ 9223372036854775807) (hc : c.Law) : (list lo hi c).Law := by
  have hi_ := int_law (lo := lo) (hi := hi) (by omega) h1
  refine ⟨fun u hu => rdl_byt hc _ _ (hi_.byt u hu), fun l r hl => ?_, fun u hu he => ?_⟩
  · show rdl c (Up.int ⟨form (l.length : Int) ++ l.flatMap c.put ++ r, 0⟩ lo hi).1.toNat (Up.int ⟨form (l.length : Int) ++ l.flatMap c.put ++ r, 0⟩ lo hi).2 = _
    have h := hi_.fwd (l.length : Int) (l.flatMap c.put ++ r) hl.1
    have h' : Up.int ⟨form (l.length : Int) ++ (l.flatMap c.put ++ r), 0⟩ lo hi = _ := h
    rw [List.append_assoc, h', Int.toNat_natCast, rdl_fwd hc l r hl.2]
  · obtain ⟨a1, a2, a3, a4⟩ := rdl_bwd hc (u.int lo hi).1.toNat (u.int lo hi).2 (hi_.byt u hu) he
    obtain ⟨b1, b2, b3⟩ := hi_.bwd u hu a1
    have b2' : u.b = form (u.int lo hi).1 ++ (u.int lo hi).2.b := b2
    have b3' : lo ≤ (u.int lo hi).1 ∧ (u.int lo hi).1 ≤ hi := b3
    have hlen : (((rdl c (u.int lo hi).1.toNat (u.int lo hi).2).1.length : Nat) : Int) = (u.int lo hi).1 := by rw [a4]; omega
    refine ⟨b1, ?_, ?_, a3⟩
    · show u.b = form (((rdl c (u.int lo hi).1.toNat (u.int lo hi).2).1.length : Nat) : Int) ++ (rdl c (u.int lo hi).1.toNat (u.int lo hi).2).1.flatMap c.put ++ (rdl c (u.int lo hi).1.toNat (u.int lo hi).2).2.b
      rw [hlen, List.append_assoc, ← a2]; exact b2'
    · show lo ≤ (((rdl c (u.int lo hi).1.toNat (u.int lo hi).2).1.length : Nat) : Int) ∧ (((rdl c (u.int lo hi).1.toNat (u.int lo hi).2).1.length : Nat) : Int) ≤ hi
      rw [hlen]; exact b3'
def str (m : Int) : Codec (List Int) := ⟨fun x => form (x.length : Int) ++ x, fun u => u.str m, fun x => (x.length : Int) ≤ m ∧ Byt x⟩
theorem str_law {m : Int} (h0 : 0 ≤ m) (h1 : m ≤ 1099511627776) : (str m).Law := by
  have hi_ := int_law (lo := 0) (hi := max 0 m) (by omega) (by omega)
  refine ⟨fun u hu => ?_, fun x r hx => ?_, fun u hu he => ?_⟩
  · show Byt (u.str m).2.b
    have := hi_.byt u hu
    unfold Up.str
    split
    · exact this
    · split
      · exact this
      · exact Byt.drop this _
  · show Up.str ⟨form (x.length : Int) ++ x ++ r, 0⟩ m = _
    rw [List.append_assoc]
    exact Up.str_form (by have := hx.1; omega) hx.1 r
  · have he' : (u.str m).2.e = 0 := he
    show u.e = 0 ∧ u.b = (form ((u.str m).1.length : Int) ++ (u.str m).1) ++ (u.str m).2.b ∧ ((u.str m).1.length : Int) ≤ m ∧ Byt (u.str m).1
    unfold Up.str at he' ⊢
    split at he'
    · rename_i h; exact absurd he' h
    · rename_i h
      rw [if_neg h]
      split at he'
      · simp at he'
      · rename_i h2
        rw [if_neg h2]
        have h3 : (u.int 0 (max 0 m)).2.e = 0 := by simpa using h
        obtain ⟨b1, b2, b3⟩ := hi_.bwd u hu h3
        have hb := hi_.byt u hu
        have b2' : u.b = form (u.int 0 (max 0 m)).1 ++ (u.int 0 (max 0 m)).2.b := b2
        have b3' : 0 ≤ (u.int 0 (max 0 m)).1 ∧ (u.int 0 (max 0 m)).1 ≤ max 0 m := b3
        have hb' : Byt (u.int 0 (max 0 m)).2.b := hb
        generalize u.int 0 (max 0 m) = q at *
        have hl : ((q.2.b.take q.1.toNat).length : Int) = q.1 := by rw [List.length_take, Nat.min_eq_left (by omega)]; omega
        refine ⟨b1, ?_, ?_, hb'.take _⟩
        · dsimp only
          rw [hl, List.append_assoc, List.take_append_drop]; exact b2'
        · dsimp only
          rw [hl]; omega
/-- All of some bytes. -/
def parse (c : Codec α) (z : α) (b : List Int) : α × Int := if (c.get ⟨b, 0⟩).2.close ≠ 0 then (z, (c.get ⟨b, 0⟩).2.close) else ((c.get ⟨b, 0⟩).1, 0)
theorem parse_fwd {c : Codec α} (hc : c.Law) {z a : α} (h : c.ok a) : parse c z (c.put a) = (a, 0) := by
  have := hc.fwd a [] h
  rw [List.append_nil] at this
  unfold parse
  rw [this]; rfl
theorem parse_bwd {c : Codec α} (hc : c.Law) {z : α} {b : List Int} (hb : Byt b) (h : (parse c z b).2 = 0) : b = c.put (parse c z b).1 ∧ c.ok (parse c z b).1 := by
  unfold parse at h ⊢
  split at h
  · rename_i k; exact absurd h k
  · rename_i k
    rw [if_neg k]
    have k' : (c.get ⟨b, 0⟩).2.close = 0 := by simpa using k
    unfold Up.close at k'
    split at k'
    · rename_i q; exact absurd k' q
    · rename_i q
      split at k'
      · cases k'
      · rename_i q2
        obtain ⟨_, h2, h3⟩ := hc.bwd ⟨b, 0⟩ hb (by simpa using q)
        have : (c.get ⟨b, 0⟩).2.b = [] := List.eq_nil_of_length_eq_zero (by omega)
        rw [this, List.append_nil] at h2
        exact ⟨h2, h3⟩
/-- A string that says something of its own. -/
def within (m : Int) (put : α → List Int) (prs : List Int → α × Int) (z : α) (x : Int) (ok : α → Prop) : Codec α :=
  ⟨fun a => (str m).put (put a), fun u => if (u.str m).2.e ≠ 0 then (z, (u.str m).2) else if (prs (u.str m).1).2 ≠ 0 then (z, (u.str m).2.spoil x) else ((prs (u.str m).1).1, (u.str m).2), fun a => ok a ∧ (str m).ok (put a)⟩
theorem within_law {m : Int} {put : α → List Int} {prs : List Int → α × Int} {z : α} {x : Int} {ok : α → Prop} (h0 : 0 ≤ m) (h1 : m ≤ 1099511627776) (hx : x ≠ 0) (hf : ∀ a, ok a → prs (put a) = (a, 0)) (hb : ∀ b, Byt b → (b.length : Int) ≤ m → (prs b).2 = 0 → b = put (prs b).1 ∧ ok (prs b).1) :
    (within m put prs z x ok).Law := by
  have hs := str_law h0 h1
  refine ⟨fun u hu => ?_, fun a r ha => ?_, fun u hu he => ?_⟩
  · have := hs.byt u hu
    show Byt (if (u.str m).2.e ≠ 0 then (z, (u.str m).2) else if (prs (u.str m).1).2 ≠ 0 then (z, (u.str m).2.spoil x) else ((prs (u.str m).1).1, (u.str m).2)).2.b
    split
    · exact this
    · split
      · unfold Up.spoil; split <;> exact this
      · exact this
  · have h := hs.fwd (put a) r ha.2
    have h' : Up.str ⟨(str m).put (put a) ++ r, 0⟩ m = (put a, ⟨r, 0⟩) := h
    show (if (Up.str ⟨(str m).put (put a) ++ r, 0⟩ m).2.e ≠ 0 then (z, (Up.str ⟨(str m).put (put a) ++ r, 0⟩ m).2) else if (prs (Up.str ⟨(str m).put (put a) ++ r, 0⟩ m).1).2 ≠ 0 then (z, (Up.str ⟨(str m).put (put a) ++ r, 0⟩ m).2.spoil x) else ((prs (Up.str ⟨(str m).put (put a) ++ r, 0⟩ m).1).1, (Up.str ⟨(str m).put (put a) ++ r, 0⟩ m).2)) = _
    rw [h']
    dsimp only
    rw [if_neg (by simp), hf a ha.1, if_neg (by simp)]
  · have he' : (if (u.str m).2.e ≠ 0 then (z, (u.str m).2) else if (prs (u.str m).1).2 ≠ 0 then (z, (u.str m).2.spoil x) else ((prs (u.str m).1).1, (u.str m).2)).2.e = 0 := he
    show u.e = 0 ∧ u.b = (str m).put (put (if (u.str m).2.e ≠ 0 then (z, (u.str m).2) else if (prs (u.str m).1).2 ≠ 0 then (z, (u.str m).2.spoil x) else ((prs (u.str m).1).1, (u.str m).2)).1) ++ (if (u.str m).2.e ≠ 0 then (z, (u.str m).2) else if (prs (u.str m).1).2 ≠ 0 then (z, (u.str m).2.spoil x) else ((prs (u.str m).1).1, (u.str m).2)).2.b ∧ ok (if (u.str m).2.e ≠ 0 then (z, (u.str m).2) else if (prs (u.str m).1).2 ≠ 0 then (z, (u.str m).2.spoil x) else ((prs (u.str m).1).1, (u.str m).2)).1 ∧ (str m).ok (put (if (u.str m).2.e ≠ 0 then (z, (u.str m).2) else if (prs (u.str m).1).2 ≠ 0 then (z, (u.str m).2.spoil x) else ((prs (u.str m).1).1, (u.str m).2)).1)
    by_cases k1 : (u.str m).2.e ≠ 0
    · rw [if_pos k1] at he'; exact absurd he' k1
    · rw [if_neg k1] at he' ⊢
      by_cases k2 : (prs (u.str m).1).2 ≠ 0
      · rw [if_pos k2] at he'
        have k3 : (u.str m).2.e = 0 := by simpa using k1
        simp [Up.spoil, k3, hx] at he'
      · rw [if_neg k2] at he' ⊢
        obtain ⟨b1, b2, b3⟩ := hs.bwd u hu he'
        have b2' : u.b = (str m).put (u.str m).1 ++ (u.str m).2.b := b2
        have b3' : ((u.str m).1.length : Int) ≤ m ∧ Byt (u.str m).1 := b3
        obtain ⟨c1, c2⟩ := hb _ b3'.2 b3'.1 (by simpa using k2)
        refine ⟨b1, ?_, c2, ?_⟩
        · dsimp only; rw [← c1]; exact b2'
        · dsimp only; rw [← c1]; exact b3
end Codec
end Go.Abs

/- Plain: entries and tables have the bytes from which they are read. -/
set_option linter.unusedVariables false
namespace Go.Abs
open Codec
abbrev WC : Codec Int := Codec.int (-9223372036854775808) 9223372036854775807
theorem WC_law : WC.Law := int_law (by decide) (by decide)
def four4 : Codec (Int × Int × Int × Int) := pair WC (pair WC (pair WC WC))
theorem four4_law : four4.Law := pair_law WC_law (pair_law WC_law (pair_law WC_law WC_law))
def enC : Codec En := map four4 (fun p => ⟨p.1, p.2.1, p.2.2.1, p.2.2.2⟩) (fun x => (x.e, x.r, x.k, x.v))
theorem enC_law : enC.Law := map_law four4_law (fun _ => rfl) (fun _ => rfl)
theorem enC_put (x : En) : enC.put x = forms x.four := by
  show form x.e ++ (form x.r ++ (form x.k ++ form x.v)) = _
  simp [forms, En.four]
theorem En.parse_eq (b : List Int) : En.parse b = if (enC.parse En.z b).2 ≠ 0 then (En.z, (enC.parse En.z b).2) else if (enC.parse En.z b).1.chk ≠ 0 then (En.z, (enC.parse En.z b).1.chk) else ((enC.parse En.z b).1, 0) := by
  have e : En.parse b = if (enC.get ⟨b, 0⟩).2.close ≠ 0 then (En.z, (enC.get ⟨b, 0⟩).2.close) else if (enC.get ⟨b, 0⟩).1.chk ≠ 0 then (En.z, (enC.get ⟨b, 0⟩).1.chk) else ((enC.get ⟨b, 0⟩).1, 0) := rfl
  rw [e]
  unfold Codec.parse
  by_cases h : (enC.get ⟨b, 0⟩).2.close ≠ 0
  · rw [if_pos h, if_pos h]; dsimp only; rw [if_pos h]
  · rw [if_neg h, if_neg h]; simp
theorem En.bytes_parse {b : List Int} (hb : Byt b) (h : (En.parse b).2 = 0) : b = (En.parse b).1.bytes ∧ (En.parse b).1.chk = 0 ∧ (En.parse b).1.okE := by
  rw [En.parse_eq] at h ⊢
  by_cases h1 : (enC.parse En.z b).2 ≠ 0
  · rw [if_pos h1] at h; exact absurd h h1
  · rw [if_neg h1] at h ⊢
    by_cases h2 : (enC.parse En.z b).1.chk ≠ 0
    · rw [if_pos h2] at h; exact absurd h h2
    · rw [if_neg h2] at h ⊢
      obtain ⟨k1, k2⟩ := parse_bwd enC_law hb (by simpa using h1)
      have h3 : (enC.parse En.z b).1.chk = 0 := by simpa using h2
      refine ⟨?_, h3, ?_⟩
      · dsimp only
        unfold En.bytes
        rw [if_neg h2, ← enC_put]; exact k1
      · exact ⟨k2.2.2.1, k2.2.2.2⟩
def spC : Codec Sp := map four4 (fun p => ⟨p.1, p.2.1, p.2.2.1, p.2.2.2⟩) (fun x => (x.e, x.r, x.p, x.o))
theorem spC_law : spC.Law := map_law four4_law (fun _ => rfl) (fun _ => rfl)
theorem spC_put (x : Sp) : spC.put x = forms x.four := by
  show form x.e ++ (form x.r ++ (form x.p ++ form x.o)) = _
  simp [forms, Sp.four]
def tbC : Codec Tb := map (pair WC (list 0 4096 spC)) (fun p => ⟨p.2, p.1⟩) (fun t => (t.n, t.l))
theorem tbC_law : tbC.Law := map_law (pair_law WC_law (list_law (by decide) (by decide) spC_law)) (fun _ => rfl) (fun _ => rfl)
theorem rds_eq : ∀ (k : Nat) (u : Up), Tb.rds k u = rdl spC k u
  | 0, u => rfl
  | k + 1, u => by
    unfold Tb.rds rdl
    split
    · rfl
    · rw [← rds_eq k]; rfl
theorem tbC_put (t : Tb) : tbC.put t = forms (t.upto t.l.length) := by
  show form t.n ++ (form (t.l.length : Int) ++ t.l.flatMap spC.put) = _
  unfold Tb.upto
  rw [List.take_length]
  simp only [forms, List.flatMap_cons]
  congr 2
  induction t.l with
  | nil => rfl
  | cons s l ih => rw [List.flatMap_cons, List.flatMap_cons, List.flatMap_append, ih, spC_put]; rfl
theorem Tb.parse_eq (b : List Int) : Tb.parse b = if (tbC.parse ⟨[], 0⟩ b).2 ≠ 0 then (⟨[], 0⟩, (tbC.parse ⟨[], 0⟩ b).2) else if (tbC.parse ⟨[], 0⟩ b).1.chk ≠ 0 then (⟨[], 0⟩, (tbC.parse ⟨[], 0⟩ b).1.chk) else ((tbC.parse ⟨[], 0⟩ b).1, 0) := by
  have e : Tb.parse b = if (tbC.get ⟨b, 0⟩).2.close ≠ 0 then (⟨[], 0⟩, (tbC.get ⟨b, 0⟩).2.close) else if (tbC.get ⟨b, 0⟩).1.chk ≠ 0 then (⟨[], 0⟩, (tbC.get ⟨b, 0⟩).1.chk) else ((tbC.get ⟨b, 0⟩).1, 0) := by
    unfold Tb.parse
    simp only [rds_eq]
    rfl
  rw [e]
  unfold Codec.parse
  by_cases h : (tbC.get ⟨b, 0⟩).2.close ≠ 0
  · rw [if_pos h, if_pos h]; dsimp only; rw [if_pos h]
  · rw [if_neg h, if_neg h]; simp
theorem Tb.bytes_parse {b : List Int} (hb : Byt b) (h : (Tb.parse b).2 = 0) : b = (Tb.parse b).1.bytes ∧ (Tb.parse b).1.chk = 0 ∧ (Tb.parse b).1.l.length ≤ 4096 := by
  rw [Tb.parse_eq] at h ⊢
  by_cases h1 : (tbC.parse ⟨[], 0⟩ b).2 ≠ 0
  · rw [if_pos h1] at h; exact absurd h h1
  · rw [if_neg h1] at h ⊢
    by_cases h2 : (tbC.parse ⟨[], 0⟩ b).1.chk ≠ 0
    · rw [if_pos h2] at h; exact absurd h h2
    · rw [if_neg h2] at h ⊢
      obtain ⟨k1, k2⟩ := parse_bwd tbC_law hb (by simpa using h1)
      refine ⟨?_, by simpa using h2, ?_⟩
      · dsimp only
        unfold Tb.bytes
        rw [if_neg h2, ← tbC_put]; exact k1
      · have : (((tbC.parse ⟨[], 0⟩ b).1.l.length : Nat) : Int) ≤ 4096 := k2.2.1.2
        dsimp only; omega
end Go.Abs

/- Plain: the hello message. -/
set_option linter.unusedVariables false
namespace Go.Abs
abbrev h0 : Wr := ⟨13, 1, 0, 3, 0, 0, false, 0, ⟨0, 0, 0, [], []⟩, 0, 0, 0, [], 0, [], 0, 0, [], 0, []⟩
abbrev h1 : Wr := ⟨13, 1, 0, 0, 0, 0, false, 0, ⟨0, 0, 0, [], []⟩, 0, 0, 0, [], 0, [], 0, 0, [], 0, []⟩
theorem h0_sz : h0.Sz := ⟨Nat.zero_le _, Nat.zero_le _, Nat.zero_le _, Nat.zero_le _, fun t h => (by cases h), Nat.zero_le _, Nat.zero_le _, fun x h => (by cases h), Nat.zero_le _⟩
theorem hello_b : ([] ++ forms [13, 1]) ++ forms [3] = [26, 2, 6] := by
  simp [forms, form, formN, natN, hiD_zero]
theorem wz_lf (w : Wr) : LF (.agg (wz w)) := by
  have v : ∀ x, LF (.val x) := fun _ => .val _
  have q : ∀ l : List Q4, LF (.sl none (l.map q4) .ro) := fun l => lf_mapG (fun q d hd => by simp only [q4, List.mem_cons, List.not_mem_nil, or_false] at hd; rcases hd with rfl | rfl | rfl | rfl <;> exact .val _) (.inl rfl)
  have r : ∀ l : List (Int × Int), LF (.sl none (l.map q2) .ro) := fun l => lf_mapG (fun q d hd => by simp only [q2, List.mem_cons, List.not_mem_nil, or_false] at hd; rcases hd with rfl | rfl <;> exact .val _) (.inl rfl)
  have i : ∀ l : List Int, LF (.sl none (l.map q1) .ro) := fun l => lf_mapG (fun q d hd => by simp only [q1, List.mem_cons, List.not_mem_nil, or_false] at hd; subst hd; exact .val _) (.inl rfl)
  have t : ∀ l : List (List Q4 × Int), LF (.sl none (l.map qt) .ro) := fun l => lf_mapG (fun t d hd => by simp only [qt, List.mem_cons, List.not_mem_nil, or_false] at hd; rcases hd with rfl | rfl; exact q _; exact .val _) (.inl rfl)
  exact .agg (lf_cons (v _) (lf_cons (v _) (lf_cons (v _) (lf_cons (v _) (lf_cons (v _) (lf_cons (v _) (lf_cons (v _) (lf_cons (v _) (lf_cons (v _) (lf_cons (v _) (lf_cons (v _) (lf_cons (r _) (lf_cons (i _) (lf_cons (v _) (lf_cons (v _) (lf_cons (v _) (lf_cons (i _) (lf_cons (v _) (lf_cons (t _) (lf_cons (v _) (lf_cons (v _) (lf_cons (q _) (lf_cons (v _) (lf_cons (lf_ints (.inl rfl)) lf_nil))))))))))))))))))))))))
end Go.Abs

/- Plain: messages' bytes, and what is read of them. -/
set_option linter.unusedVariables false
namespace Go.Abs
namespace Codec
variable {α β : Type}
def mapB (c : Codec α) (f : α → β) (g : β → α) : Codec β := ⟨fun x => c.put (g x), fun u => (f (c.get u).1, (c.get u).2), fun x => c.ok (g x) ∧ f (g x) = x⟩
theorem mapB_law {c : Codec α} {f : α → β} {g : β → α} (hc : c.Law) (h : ∀ a, c.ok a → g (f a) = a) : (mapB c f g).Law := by
  refine ⟨fun u hu => hc.byt u hu, fun x r hx => ?_, fun u hu he => ?_⟩
  · show (f (c.get ⟨c.put (g x) ++ r, 0⟩).1, (c.get ⟨c.put (g x) ++ r, 0⟩).2) = _
    rw [hc.fwd _ _ hx.1, hx.2]
  · obtain ⟨k1, k2, k3⟩ := hc.bwd u hu he
    have e := h _ k3
    refine ⟨k1, ?_, ?_, ?_⟩
    · show u.b = c.put (g (f (c.get u).1)) ++ _
      rw [e]; exact k2
    · show c.ok (g (f (c.get u).1))
      rw [e]; exact k3
    · show f (g (f (c.get u).1)) = f (c.get u).1
      rw [e]
/-- First a number, then what hangs on it. -/
def dep (c : Codec Int) (d : Int → Codec β) (k : β → Int) : Codec β := ⟨fun x => c.put (k x) ++ (d (k x)).put x, fun u => (d (c.get u).1).get (c.get u).2, fun x => c.ok (k x) ∧ (d (k x)).ok x⟩
theorem dep_law {c : Codec Int} {d : Int → Codec β} {k : β → Int} (hc : c.Law) (hd : ∀ n, (d n).Law) (hk : ∀ n x, (d n).ok x → k x = n) : (dep c d k).Law := by
  refine ⟨fun u hu => (hd _).byt _ (hc.byt u hu), fun x r hx => ?_, fun u hu he => ?_⟩
  · show (d (c.get ⟨c.put (k x) ++ (d (k x)).put x ++ r, 0⟩).1).get (c.get ⟨c.put (k x) ++ (d (k x)).put x ++ r, 0⟩).2 = _
    rw [List.append_assoc, hc.fwd _ _ hx.1, (hd _).fwd _ _ hx.2]
  · obtain ⟨h1, h2, h3⟩ := (hd (c.get u).1).bwd (c.get u).2 (hc.byt u hu) he
    obtain ⟨k1, k2, k3⟩ := hc.bwd u hu h1
    have e := hk _ _ h3
    refine ⟨k1, ?_, ?_, ?_⟩
    · show u.b = c.put (k ((d (c.get u).1).get (c.get u).2).1) ++ (d (k ((d (c.get u).1).get (c.get u).2).1)).put ((d (c.get u).1).get (c.get u).2).1 ++ ((d (c.get u).1).get (c.get u).2).2.b
      rw [e, List.append_assoc, ← h2]; exact k2
    · show c.ok (k ((d (c.get u).1).get (c.get u).2).1)
      rw [e]; exact k3
    · show (d (k ((d (c.get u).1).get (c.get u).2).1)).ok _
      rw [e]; exact h3
theorem law_ite {p : Prop} [Decidable p] {c d : Codec α} (h : c.Law) (g : d.Law) : (if p then c else d).Law := by split <;> assumption
def Has (q : α → Prop) (c : Codec α) : Prop := ∀ x, c.ok x → q x
theorem has_ite {q : α → Prop} {p : Prop} [Decidable p] {c d : Codec α} (h : Has q c) (g : Has q d) : Has q (if p then c else d) := by split <;> assumption
theorem has_mapB {q : β → Prop} {c : Codec α} {f : α → β} {g : β → α} (h : ∀ a, q (f a)) : Has q (mapB c f g) := fun x hx => by rw [← hx.2]; exact h _
end Codec
open Codec
def toEn (q : Q4) : En := ⟨q.1, q.2.1, q.2.2.1, q.2.2.2⟩
def ofEn (x : En) : Q4 := (x.e, x.r, x.k, x.v)
def toSp (q : Q4) : Sp := ⟨q.1, q.2.1, q.2.2.1, q.2.2.2⟩
def ofSp (x : Sp) : Q4 := (x.e, x.r, x.p, x.o)
def toTb (t : List Q4 × Int) : Tb := ⟨t.1.map toSp, t.2⟩
def ofTb (t : Tb) : List Q4 × Int := (t.l.map ofSp, t.n)
theorem toTb_of (t : Tb) : toTb (ofTb t) = t := by
  unfold toTb ofTb
  rw [List.map_map]
  have : (toSp ∘ ofSp) = id := rfl
  rw [this, List.map_id]
theorem ofTb_to (t : List Q4 × Int) : ofTb (toTb t) = t := by
  unfold toTb ofTb
  rw [List.map_map]
  have : (ofSp ∘ toSp) = id := rfl
  rw [this, List.map_id]
abbrev posC : Codec Int := int 1 9007199254740992
abbrev numC : Codec Int := int 0 9007199254740992
abbrev errC : Codec Int := int 0 65536
abbrev regC : Codec Int := int 0 1
def flagC : Codec Bool := mapB regC (fun n => n == 1) (fun b => if b then 1 else 0)
theorem posC_law : posC.Law := int_law (by decide) (by decide)
theorem numC_law : numC.Law := int_law (by decide) (by decide)
theorem errC_law : errC.Law := int_law (by decide) (by decide)
theorem regC_law : regC.Law := int_law (by decide) (by decide)
theorem flagC_law : flagC.Law := mapB_law regC_law (fun a ha => by
  have h : 0 ≤ a ∧ a ≤ 1 := ha
  have : a = 0 ∨ a = 1 := by omega
  rcases this with rfl | rfl <;> rfl)
def keyC : Codec (Int × Int) := pair posC posC
def vecC : Codec (List Int) := list 1 4 numC
theorem keyC_law : keyC.Law := pair_law posC_law posC_law
theorem vecC_law : vecC.Law := list_law (by decide) (by decide) numC_law
/-- A transaction within a message. -/
def txI : Codec Tx := map (pair WC (pair WC (pair WC (pair (list 0 262144 (pair WC WC)) (list 0 262144 WC))))) (fun p => ⟨p.1, p.2.1, p.2.2.1, p.2.2.2.1, p.2.2.2.2⟩) (fun t => (t.e, t.i, t.b, t.r, t.v))
theorem txI_law : txI.Law := map_law (pair_law WC_law (pair_law WC_law (pair_law WC_law (pair_law (list_law (by decide) (by decide) (pair_law WC_law WC_law)) (list_law (by decide) (by decide) WC_law))))) (fun _ => rfl) (fun _ => rfl)
abbrev txz0 : Tx := ⟨0, 0, 0, [], []⟩
def txC : Codec Tx := within 131072 txI.put (txI.parse txz0) txz0 240 txI.ok
theorem txC_law : txC.Law := within_law (by decide) (by decide) (by decide) (fun a h => parse_fwd txI_law h) (fun b hb _ h => parse_bwd txI_law hb h)
def tabC : Codec (List Q4 × Int) := within 131072 (fun t => (toTb t).bytes) (fun b => (ofTb (Tb.parse b).1, (Tb.parse b).2)) ([], 0) 240 (fun t => (toTb t).chk = 0)
theorem tabC_law : tabC.Law := within_law (by decide) (by decide) (by decide) (fun a h => by rw [Tb.parse_bytes h]; exact Prod.ext (ofTb_to a) rfl)
  (fun b hb _ h => by
    obtain ⟨h1, h2, _⟩ := Tb.bytes_parse hb h
    refine ⟨?_, ?_⟩
    · dsimp only; rw [toTb_of]; exact h1
    · dsimp only; rw [toTb_of]; exact h2)
def entC : Codec Q4 := within 131072 (fun t => (toEn t).bytes) (fun b => (ofEn (En.parse b).1, (En.parse b).2)) (0, 0, 0, 0) 240 (fun t => (toEn t).chk = 0 ∧ (toEn t).okE)
theorem entC_law : entC.Law := within_law (by decide) (by decide) (by decide) (fun a h => by rw [En.parse_bytes h.2 h.1]; rfl)
  (fun b hb _ h => by
    obtain ⟨h1, h2, h3⟩ := En.bytes_parse hb h
    exact ⟨h1, h2, h3⟩)
def wr0 (k r : Int) : Wr := ⟨k, r, 0, 0, 0, 0, false, 0, txz0, 0, 0, 0, [], 0, [], 0, 0, [], 0, []⟩
/-- What stands behind the kind and the region. -/
def bodyC (k r : Int) : Codec Wr :=
  if k ≥ 13 then
    if k = 14 then mapB (pair posC (pair posC (list 1 4 tabC))) (fun p => { wr0 k r with ep := p.1, nm := p.2.1, tb := p.2.2 }) (fun w => (w.ep, w.nm, w.tb))
    else if k = 15 then mapB (pair posC (pair posC vecC)) (fun p => { wr0 k r with ep := p.1, nm := p.2.1, vc := p.2.2 }) (fun w => (w.ep, w.nm, w.vc))
    else if k = 17 then mapB (pair posC vecC) (fun p => { wr0 k r with ep := p.1, vc := p.2 }) (fun w => (w.ep, w.vc))
    else if k = 16 then mapB (pair posC (pair (int 0 3) (pair numC (list 1 8 entC)))) (fun p => { wr0 k r with ep := p.1, pt := p.2.1, ps := p.2.2.1, en := p.2.2.2 }) (fun w => (w.ep, w.pt, w.ps, w.en))
    else if k = 18 then mapB (pair posC (pair keyC (pair numC (str 131072)))) (fun p => { wr0 k r with ep := p.1, ke := p.2.1.1, ki := p.2.1.2, ch := p.2.2.1, by_ := p.2.2.2 }) (fun w => (w.ep, (w.ke, w.ki), w.ch, w.by_))
    else if k = 19 then mapB (pair posC (pair keyC (int (-1) 9007199254740992))) (fun p => { wr0 k r with ep := p.1, ke := p.2.1.1, ki := p.2.1.2, ch := p.2.2 }) (fun w => (w.ep, (w.ke, w.ki), w.ch))
    else if k = 20 then mapB (pair posC keyC) (fun p => { wr0 k r with ep := p.1, ke := p.2.1, ki := p.2.2 }) (fun w => (w.ep, (w.ke, w.ki)))
    else mapB posC (fun p => { wr0 k r with ep := p }) (fun w => w.ep)
  else if k = 2 ∨ k = 3 ∨ k = 7 then mapB (pair posC posC) (fun p => { wr0 k r with rq := p.1, ep := p.2 }) (fun w => (w.rq, w.ep))
  else if k = 4 then mapB (pair posC (pair posC regC)) (fun p => { wr0 k r with rq := p.1, ep := p.2.1, to := p.2.2 }) (fun w => (w.rq, w.ep, w.to))
  else if k = 5 then mapB (pair posC (pair posC flagC)) (fun p => { wr0 k r with rq := p.1, ep := p.2.1, fl := p.2.2 }) (fun w => (w.rq, w.ep, w.fl))
  else if k = 6 then mapB (pair posC (pair (int 1 5) (pair numC (pair flagC errC)))) (fun p => { wr0 k r with rq := p.1, dd := p.2.1, ep := p.2.2.1, fl := p.2.2.2.1, er := p.2.2.2.2 }) (fun w => (w.rq, w.dd, w.ep, w.fl, w.er))
  else if k = 8 then mapB (pair posC txC) (fun p => { wr0 k r with rq := p.1, tx := p.2 }) (fun w => (w.rq, w.tx))
  else if k = 9 ∨ k = 10 then mapB (pair posC keyC) (fun p => { wr0 k r with rq := p.1, ke := p.2.1, ki := p.2.2 }) (fun w => (w.rq, (w.ke, w.ki)))
  else if k = 12 then mapB (pair posC (pair (int 7 11) (pair numC (pair numC (pair numC (pair numC (pair vecC errC))))))) (fun p => { wr0 k r with rq := p.1, dd := p.2.1, ke := p.2.2.1, ki := p.2.2.2.1, ep := p.2.2.2.2.1, ln := p.2.2.2.2.2.1, vc := p.2.2.2.2.2.2.1, er := p.2.2.2.2.2.2.2 }) (fun w => (w.rq, w.dd, w.ke, w.ki, w.ep, w.ln, w.vc, w.er))
  else mapB posC (fun p => { wr0 k r with rq := p }) (fun w => w.rq)
theorem bodyC_law (k r : Int) : (bodyC k r).Law := by
  unfold bodyC
  have I : ∀ {lo hi : Int}, -9223372036854775808 ≤ lo → hi ≤ 9223372036854775807 → (int lo hi).Law := fun h1 h2 => int_law h1 h2
  have T := list_law (lo := 1) (hi := 4) (by decide) (by decide) tabC_law
  have E := list_law (lo := 1) (hi := 8) (by decide) (by decide) entC_law
  have P := posC_law
  exact law_ite (law_ite (mapB_law (pair_law P (pair_law P T)) (fun _ _ => rfl)) (law_ite (mapB_law (pair_law P (pair_law P vecC_law)) (fun _ _ => rfl)) (law_ite (mapB_law (pair_law P vecC_law) (fun _ _ => rfl)) (law_ite (mapB_law (pair_law P (pair_law (I (by decide) (by decide)) (pair_law numC_law E))) (fun _ _ => rfl)) (law_ite (mapB_law (pair_law P (pair_law keyC_law (pair_law numC_law (str_law (by decide) (by decide))))) (fun _ _ => rfl)) (law_ite (mapB_law (pair_law P (pair_law keyC_law (I (by decide) (by decide)))) (fun _ _ => rfl)) (law_ite (mapB_law (pair_law P keyC_law) (fun _ _ => rfl)) (mapB_law P (fun _ _ => rfl))))))))) (law_ite (mapB_law (pair_law P P) (fun _ _ => rfl)) (law_ite (mapB_law (pair_law P (pair_law P regC_law)) (fun _ _ => rfl)) (law_ite (mapB_law (pair_law P (pair_law P flagC_law)) (fun _ _ => rfl)) (law_ite (mapB_law (pair_law P (pair_law (I (by decide) (by decide)) (pair_law numC_law (pair_law flagC_law errC_law)))) (fun _ _ => rfl)) (law_ite (mapB_law (pair_law P txC_law) (fun _ _ => rfl)) (law_ite (mapB_law (pair_law P keyC_law) (fun _ _ => rfl)) (law_ite (mapB_law (pair_law P (pair_law (I (by decide) (by decide)) (pair_law numC_law (pair_law numC_law (pair_law numC_law (pair_law numC_law (pair_law vecC_law errC_law))))))) (fun _ _ => rfl)) (mapB_law P (fun _ _ => rfl)))))))))
theorem bodyC_has (k r : Int) : Has (fun x : Wr => x.kd = k ∧ x.rg = r) (bodyC k r) := by
  unfold bodyC
  exact has_ite (has_ite (has_mapB (fun _ => ⟨rfl, rfl⟩)) (has_ite (has_mapB (fun _ => ⟨rfl, rfl⟩)) (has_ite (has_mapB (fun _ => ⟨rfl, rfl⟩)) (has_ite (has_mapB (fun _ => ⟨rfl, rfl⟩)) (has_ite (has_mapB (fun _ => ⟨rfl, rfl⟩)) (has_ite (has_mapB (fun _ => ⟨rfl, rfl⟩)) (has_ite (has_mapB (fun _ => ⟨rfl, rfl⟩)) (has_mapB (fun _ => ⟨rfl, rfl⟩))))))))) (has_ite (has_mapB (fun _ => ⟨rfl, rfl⟩)) (has_ite (has_mapB (fun _ => ⟨rfl, rfl⟩)) (has_ite (has_mapB (fun _ => ⟨rfl, rfl⟩)) (has_ite (has_mapB (fun _ => ⟨rfl, rfl⟩)) (has_ite (has_mapB (fun _ => ⟨rfl, rfl⟩)) (has_ite (has_mapB (fun _ => ⟨rfl, rfl⟩)) (has_ite (has_mapB (fun _ => ⟨rfl, rfl⟩)) (has_mapB (fun _ => ⟨rfl, rfl⟩)))))))))
theorem bodyC_kd {k r : Int} {x : Wr} (h : (bodyC k r).ok x) : x.kd = k ∧ x.rg = r := bodyC_has k r x h
/-- A message. -/
def msgC : Codec Wr := dep (int 1 20) (fun k => dep regC (fun r => bodyC k r) (fun w => w.rg)) (fun w => w.kd)
theorem msgC_law : msgC.Law := dep_law (int_law (by decide) (by decide)) (fun k => dep_law regC_law (fun r => bodyC_law k r) (fun r x h => (bodyC_kd h).2)) (fun k x h => (bodyC_kd h.2).1)
end Go.Abs

/- Plain: a message with the fields of its kind alone. -/
set_option linter.unusedVariables false
namespace Go.Abs
def kindW (w : Wr) : Bool := decide (1 ≤ w.kd) && decide (w.kd ≤ 20)
def bareW (w : Wr) : Wr :=
  if w.kd = 1 ∨ w.kd = 11 then { wr0 w.kd w.rg with rq := w.rq }
  else if w.kd = 2 ∨ w.kd = 3 ∨ w.kd = 7 then { wr0 w.kd w.rg with rq := w.rq, ep := w.ep }
  else if w.kd = 4 then { wr0 w.kd w.rg with rq := w.rq, ep := w.ep, to := w.to }
  else if w.kd = 5 then { wr0 w.kd w.rg with rq := w.rq, ep := w.ep, fl := w.fl }
  else if w.kd = 6 then { wr0 w.kd w.rg with rq := w.rq, dd := w.dd, ep := w.ep, fl := w.fl, er := w.er }
  else if w.kd = 8 then { wr0 w.kd w.rg with rq := w.rq, tx := w.tx }
  else if w.kd = 9 ∨ w.kd = 10 then { wr0 w.kd w.rg with rq := w.rq, ke := w.ke, ki := w.ki }
  else if w.kd = 12 then { wr0 w.kd w.rg with rq := w.rq, dd := w.dd, ke := w.ke, ki := w.ki, ep := w.ep, ln := w.ln, vc := w.vc, er := w.er }
  else if w.kd = 14 then { wr0 w.kd w.rg with ep := w.ep, nm := w.nm, tb := w.tb }
  else if w.kd = 15 then { wr0 w.kd w.rg with ep := w.ep, nm := w.nm, vc := w.vc }
  else if w.kd = 17 then { wr0 w.kd w.rg with ep := w.ep, vc := w.vc }
  else if w.kd = 16 then { wr0 w.kd w.rg with ep := w.ep, pt := w.pt, ps := w.ps, en := w.en }
  else if w.kd = 18 then { wr0 w.kd w.rg with ep := w.ep, ke := w.ke, ki := w.ki, ch := w.ch, by_ := w.by_ }
  else if w.kd = 19 then { wr0 w.kd w.rg with ep := w.ep, ke := w.ke, ki := w.ki, ch := w.ch }
  else if w.kd = 20 then { wr0 w.kd w.rg with ep := w.ep, ke := w.ke, ki := w.ki }
  else { wr0 w.kd w.rg with ep := w.ep }
theorem bare_0 {w : Wr} (h : w.kd = 1 ∨ w.kd = 11) : bareW w = { wr0 w.kd w.rg with rq := w.rq } := by
  unfold bareW
  rw [if_pos (by omega)]
theorem bare_1 {w : Wr} (h : w.kd = 2 ∨ w.kd = 3 ∨ w.kd = 7) : bareW w = { wr0 w.kd w.rg with rq := w.rq, ep := w.ep } := by
  unfold bareW
  rw [if_neg (by omega)]
  rw [if_pos (by omega)]
theorem bare_2 {w : Wr} (h : w.kd = 4) : bareW w = { wr0 w.kd w.rg with rq := w.rq, ep := w.ep, to := w.to } := by
  unfold bareW
  rw [if_neg (by omega)]
  rw [if_neg (by omega)]
  rw [if_pos (by omega)]
theorem bare_3 {w : Wr} (h : w.kd = 5) : bareW w = { wr0 w.kd w.rg with rq := w.rq, ep := w.ep, fl := w.fl } := by
  unfold bareW
  rw [if_neg (by omega)]
  rw [if_neg (by omega)]
  rw [if_neg (by omega)]
  rw [if_pos (by omega)]
theorem bare_4 {w : Wr} (h : w.kd = 6) : bareW w = { wr0 w.kd w.rg with rq := w.rq, dd := w.dd, ep := w.ep, fl := w.fl, er := w.er } := by
  unfold bareW
  rw [if_neg (by omega)]
  rw [if_neg (by omega)]
  rw [if_neg (by omega)]
  rw [if_neg (by omega)]
  rw [if_pos (by omega)]
theorem bare_5 {w : Wr} (h : w.kd = 8) : bareW w = { wr0 w.kd w.rg with rq := w.rq, tx := w.tx } := by
  unfold bareW
  rw [if_neg (by omega)]
  rw [if_neg (by omega)]
  rw [if_neg (by omega)]
  rw [if_neg (by omega)]
  rw [if_neg (by omega)]
  rw [if_pos (by omega)]
theorem bare_6 {w : Wr} (h : w.kd = 9 ∨ w.kd = 10) : bareW w = { wr0 w.kd w.rg with rq := w.rq, ke := w.ke, ki := w.ki } := by
  unfold bareW
  rw [if_neg (by omega)]
  rw [if_neg (by omega)]
  rw [if_neg (by omega)]
  rw [if_neg (by omega)]
  rw [if_neg (by omega)]
  rw [if_neg (by omega)]
  rw [if_pos (by omega)]
theorem bare_7 {w : Wr} (h : w.kd = 12) : bareW w = { wr0 w.kd w.rg with rq := w.rq, dd := w.dd, ke := w.ke, ki := w.ki, ep := w.ep, ln := w.ln, vc := w.vc, er := w.er } := by
  unfold bareW
  rw [if_neg (by omega)]
  rw [if_neg (by omega)]
  rw [if_neg (by omega)]
  rw [if_neg (by omega)]
  rw [if_neg (by omega)]
  rw [if_neg (by omega)]
  rw [if_neg (by omega)]
  rw [if_pos (by omega)]
theorem bare_8 {w : Wr} (h : w.kd = 14) : bareW w = { wr0 w.kd w.rg with ep := w.ep, nm := w.nm, tb := w.tb } := by
  unfold bareW
  rw [if_neg (by omega)]
  rw [if_neg (by omega)]
  rw [if_neg (by omega)]
  rw [if_neg (by omega)]
  rw [if_neg (by omega)]
  rw [if_neg (by omega)]
  rw [if_neg (by omega)]
  rw [if_neg (by omega)]
  rw [if_pos (by omega)]
theorem bare_9 {w : Wr} (h : w.kd = 15) : bareW w = { wr0 w.kd w.rg with ep := w.ep, nm := w.nm, vc := w.vc } := by
  unfold bareW
  rw [if_neg (by omega)]
  rw [if_neg (by omega)]
  rw [if_neg (by omega)]
  rw [if_neg (by omega)]
  rw [if_neg (by omega)]
  rw [if_neg (by omega)]
  rw [if_neg (by omega)]
  rw [if_neg (by omega)]
  rw [if_neg (by omega)]
  rw [if_pos (by omega)]
theorem bare_10 {w : Wr} (h : w.kd = 17) : bareW w = { wr0 w.kd w.rg with ep := w.ep, vc := w.vc } := by
  unfold bareW
  rw [if_neg (by omega)]
  rw [if_neg (by omega)]
  rw [if_neg (by omega)]
  rw [if_neg (by omega)]
  rw [if_neg (by omega)]
  rw [if_neg (by omega)]
  rw [if_neg (by omega)]
  rw [if_neg (by omega)]
  rw [if_neg (by omega)]
  rw [if_neg (by omega)]
  rw [if_pos (by omega)]
theorem bare_11 {w : Wr} (h : w.kd = 16) : bareW w = { wr0 w.kd w.rg with ep := w.ep, pt := w.pt, ps := w.ps, en := w.en } := by
  unfold bareW
  rw [if_neg (by omega)]
  rw [if_neg (by omega)]
  rw [if_neg (by omega)]
  rw [if_neg (by omega)]
  rw [if_neg (by omega)]
  rw [if_neg (by omega)]
  rw [if_neg (by omega)]
  rw [if_neg (by omega)]
  rw [if_neg (by omega)]
  rw [if_neg (by omega)]
  rw [if_neg (by omega)]
  rw [if_pos (by omega)]
theorem bare_12 {w : Wr} (h : w.kd = 18) : bareW w = { wr0 w.kd w.rg with ep := w.ep, ke := w.ke, ki := w.ki, ch := w.ch, by_ := w.by_ } := by
  unfold bareW
  rw [if_neg (by omega)]
  rw [if_neg (by omega)]
  rw [if_neg (by omega)]
  rw [if_neg (by omega)]
  rw [if_neg (by omega)]
  rw [if_neg (by omega)]
  rw [if_neg (by omega)]
  rw [if_neg (by omega)]
  rw [if_neg (by omega)]
  rw [if_neg (by omega)]
  rw [if_neg (by omega)]
  rw [if_neg (by omega)]
  rw [if_pos (by omega)]
theorem bare_13 {w : Wr} (h : w.kd = 19) : bareW w = { wr0 w.kd w.rg with ep := w.ep, ke := w.ke, ki := w.ki, ch := w.ch } := by
  unfold bareW
  rw [if_neg (by omega)]
  rw [if_neg (by omega)]
  rw [if_neg (by omega)]
  rw [if_neg (by omega)]
  rw [if_neg (by omega)]
  rw [if_neg (by omega)]
  rw [if_neg (by omega)]
  rw [if_neg (by omega)]
  rw [if_neg (by omega)]
  rw [if_neg (by omega)]
  rw [if_neg (by omega)]
  rw [if_neg (by omega)]
  rw [if_neg (by omega)]
  rw [if_pos (by omega)]
theorem bare_14 {w : Wr} (h : w.kd = 20) : bareW w = { wr0 w.kd w.rg with ep := w.ep, ke := w.ke, ki := w.ki } := by
  unfold bareW
  rw [if_neg (by omega)]
  rw [if_neg (by omega)]
  rw [if_neg (by omega)]
  rw [if_neg (by omega)]
  rw [if_neg (by omega)]
  rw [if_neg (by omega)]
  rw [if_neg (by omega)]
  rw [if_neg (by omega)]
  rw [if_neg (by omega)]
  rw [if_neg (by omega)]
  rw [if_neg (by omega)]
  rw [if_neg (by omega)]
  rw [if_neg (by omega)]
  rw [if_neg (by omega)]
  rw [if_pos (by omega)]
theorem bare_x {w : Wr} (h : w.kd ≠ 1 ∧ w.kd ≠ 11 ∧ w.kd ≠ 2 ∧ w.kd ≠ 3 ∧ w.kd ≠ 7 ∧ w.kd ≠ 4 ∧ w.kd ≠ 5 ∧ w.kd ≠ 6 ∧ w.kd ≠ 8 ∧ w.kd ≠ 9 ∧ w.kd ≠ 10 ∧ w.kd ≠ 12 ∧ w.kd ≠ 14 ∧ w.kd ≠ 15 ∧ w.kd ≠ 17 ∧ w.kd ≠ 16 ∧ w.kd ≠ 18 ∧ w.kd ≠ 19 ∧ w.kd ≠ 20) : bareW w = { wr0 w.kd w.rg with ep := w.ep } := by
  unfold bareW
  rw [if_neg (by omega)]
  rw [if_neg (by omega)]
  rw [if_neg (by omega)]
  rw [if_neg (by omega)]
  rw [if_neg (by omega)]
  rw [if_neg (by omega)]
  rw [if_neg (by omega)]
  rw [if_neg (by omega)]
  rw [if_neg (by omega)]
  rw [if_neg (by omega)]
  rw [if_neg (by omega)]
  rw [if_neg (by omega)]
  rw [if_neg (by omega)]
  rw [if_neg (by omega)]
  rw [if_neg (by omega)]
end Go.Abs

/- Plain: which messages may be; their bytes, and the message of bytes. -/
set_option linter.unusedVariables false
set_option linter.unusedSimpArgs false
namespace Go.Abs
open Codec
def regB (n : Int) : Bool := decide (0 ≤ n) && decide (n < 2)
def errB (n : Int) : Bool := decide (0 ≤ n) && decide (n ≤ 65536)
def vecB (l : List Int) : Bool := decide (1 ≤ l.length) && decide (l.length ≤ 4) && l.all numN
def txB (t : Tx) : Bool := (numN t.e && numN t.i && numN t.b) && t.v.all numN && decide (t.r.length ≤ 4096) && decide (t.v.length ≤ 4)
def tabsB (l : List (List Q4 × Int)) : Bool := decide (1 ≤ l.length) && decide (l.length ≤ 4) && l.all (fun t => decide ((toTb t).chk = 0))
/-- What a message of some kind holds. -/
def fieldsW (w : Wr) : Bool :=
  if w.kd = 1 ∨ w.kd = 11 then posN w.rq
  else if w.kd = 2 ∨ w.kd = 3 ∨ w.kd = 7 then posN w.rq && posN w.ep
  else if w.kd = 4 then posN w.rq && posN w.ep && regB w.to
  else if w.kd = 5 then posN w.rq && posN w.ep
  else if w.kd = 6 then posN w.rq && (decide (1 ≤ w.dd) && decide (w.dd ≤ 5)) && numN w.ep && errB w.er
  else if w.kd = 8 then posN w.rq && txB w.tx
  else if w.kd = 9 ∨ w.kd = 10 then posN w.rq && (posN w.ke && posN w.ki)
  else if w.kd = 12 then posN w.rq && (decide (7 ≤ w.dd) && decide (w.dd ≤ 11)) && (numN w.ke && numN w.ki && numN w.ep && numN w.ln) && vecB w.vc && errB w.er
  else if w.kd = 14 then posN w.ep && posN w.nm && tabsB w.tb
  else if w.kd = 15 then posN w.ep && posN w.nm && vecB w.vc
  else if w.kd = 17 then posN w.ep && vecB w.vc
  else if w.kd = 16 then posN w.ep && decide (chkB w.pt w.ps (w.en.map toEn) = 0)
  else if w.kd = 18 then posN w.ep && (posN w.ke && posN w.ki) && numN w.ch
  else if w.kd = 19 then posN w.ep && (posN w.ke && posN w.ki) && (decide (-1 ≤ w.ch) && decide (w.ch ≤ 9007199254740992))
  else if w.kd = 20 then posN w.ep && (posN w.ke && posN w.ki)
  else if w.kd = 13 then posN w.ep else false
theorem fields_0 {w : Wr} (h : w.kd = 1 ∨ w.kd = 11) : fieldsW w = (posN w.rq) := by
  unfold fieldsW
  rw [if_pos (by omega)]
theorem fields_1 {w : Wr} (h : w.kd = 2 ∨ w.kd = 3 ∨ w.kd = 7) : fieldsW w = (posN w.rq && posN w.ep) := by
  unfold fieldsW
  rw [if_neg (by omega)]
  rw [if_pos (by omega)]
theorem fields_2 {w : Wr} (h : w.kd = 4) : fieldsW w = (posN w.rq && posN w.ep && regB w.to) := by
  unfold fieldsW
  rw [if_neg (by omega)]
  rw [if_neg (by omega)]
  rw [if_pos (by omega)]
theorem fields_3 {w : Wr} (h : w.kd = 5) : fieldsW w = (posN w.rq && posN w.ep) := by
  unfold fieldsW
  rw [if_neg (by omega)]
  rw [if_neg (by omega)]
  rw [if_neg (by omega)]
  rw [if_pos (by omega)]
theorem fields_4 {w : Wr} (h : w.kd = 6) : fieldsW w = (posN w.rq && (decide (1 ≤ w.dd) && decide (w.dd ≤ 5)) && numN w.ep && errB w.er) := by
  unfold fieldsW
  rw [if_neg (by omega)]
  rw [if_neg (by omega)]
  rw [if_neg (by omega)]
  rw [if_neg (by omega)]
  rw [if_pos (by omega)]
theorem fields_5 {w : Wr} (h : w.kd = 8) : fieldsW w = (posN w.rq && txB w.tx) := by
  unfold fieldsW
  rw [if_neg (by omega)]
  rw [if_neg (by omega)]
  rw [if_neg (by omega)]
  rw [if_neg (by omega)]
  rw [if_neg (by omega)]
  rw [if_pos (by omega)]
theorem fields_6 {w : Wr} (h : w.kd = 9 ∨ w.kd = 10) : fieldsW w = (posN w.rq && (posN w.ke && posN w.ki)) := by
  unfold fieldsW
  rw [if_neg (by omega)]
  rw [if_neg (by omega)]
  rw [if_neg (by omega)]
  rw [if_neg (by omega)]
  rw [if_neg (by omega)]
  rw [if_neg (by omega)]
  rw [if_pos (by omega)]
theorem fields_7 {w : Wr} (h : w.kd = 12) : fieldsW w = (posN w.rq && (decide (7 ≤ w.dd) && decide (w.dd ≤ 11)) && (numN w.ke && numN w.ki && numN w.ep && numN w.ln) && vecB w.vc && errB w.er) := by
  unfold fieldsW
  rw [if_neg (by omega)]
  rw [if_neg (by omega)]
  rw [if_neg (by omega)]
  rw [if_neg (by omega)]
  rw [if_neg (by omega)]
  rw [if_neg (by omega)]
  rw [if_neg (by omega)]
  rw [if_pos (by omega)]
theorem fields_8 {w : Wr} (h : w.kd = 14) : fieldsW w = (posN w.ep && posN w.nm && tabsB w.tb) := by
  unfold fieldsW
  rw [if_neg (by omega)]
  rw [if_neg (by omega)]
  rw [if_neg (by omega)]
  rw [if_neg (by omega)]
  rw [if_neg (by omega)]
  rw [if_neg (by omega)]
  rw [if_neg (by omega)]
  rw [if_neg (by omega)]
  rw [if_pos (by omega)]
theorem fields_9 {w : Wr} (h : w.kd = 15) : fieldsW w = (posN w.ep && posN w.nm && vecB w.vc) := by
  unfold fieldsW
  rw [if_neg (by omega)]
  rw [if_neg (by omega)]
  rw [if_neg (by omega)]
  rw [if_neg (by omega)]
  rw [if_neg (by omega)]
  rw [if_neg (by omega)]
  rw [if_neg (by omega)]
  rw [if_neg (by omega)]
  rw [if_neg (by omega)]
  rw [if_pos (by omega)]
theorem fields_10 {w : Wr} (h : w.kd = 17) : fieldsW w = (posN w.ep && vecB w.vc) := by
  unfold fieldsW
  rw [if_neg (by omega)]
  rw [if_neg (by omega)]
  rw [if_neg (by omega)]
  rw [if_neg (by omega)]
  rw [if_neg (by omega)]
  rw [if_neg (by omega)]
  rw [if_neg (by omega)]
  rw [if_neg (by omega)]
  rw [if_neg (by omega)]
  rw [if_neg (by omega)]
  rw [if_pos (by omega)]
theorem fields_11 {w : Wr} (h : w.kd = 16) : fieldsW w = (posN w.ep && decide (chkB w.pt w.ps (w.en.map toEn) = 0)) := by
  unfold fieldsW
  rw [if_neg (by omega)]
  rw [if_neg (by omega)]
  rw [if_neg (by omega)]
  rw [if_neg (by omega)]
  rw [if_neg (by omega)]
  rw [if_neg (by omega)]
  rw [if_neg (by omega)]
  rw [if_neg (by omega)]
  rw [if_neg (by omega)]
  rw [if_neg (by omega)]
  rw [if_neg (by omega)]
  rw [if_pos (by omega)]
theorem fields_12 {w : Wr} (h : w.kd = 18) : fieldsW w = (posN w.ep && (posN w.ke && posN w.ki) && numN w.ch) := by
  unfold fieldsW
  rw [if_neg (by omega)]
  rw [if_neg (by omega)]
  rw [if_neg (by omega)]
  rw [if_neg (by omega)]
  rw [if_neg (by omega)]
  rw [if_neg (by omega)]
  rw [if_neg (by omega)]
  rw [if_neg (by omega)]
  rw [if_neg (by omega)]
  rw [if_neg (by omega)]
  rw [if_neg (by omega)]
  rw [if_neg (by omega)]
  rw [if_pos (by omega)]
theorem fields_13 {w : Wr} (h : w.kd = 19) : fieldsW w = (posN w.ep && (posN w.ke && posN w.ki) && (decide (-1 ≤ w.ch) && decide (w.ch ≤ 9007199254740992))) := by
  unfold fieldsW
  rw [if_neg (by omega)]
  rw [if_neg (by omega)]
  rw [if_neg (by omega)]
  rw [if_neg (by omega)]
  rw [if_neg (by omega)]
  rw [if_neg (by omega)]
  rw [if_neg (by omega)]
  rw [if_neg (by omega)]
  rw [if_neg (by omega)]
  rw [if_neg (by omega)]
  rw [if_neg (by omega)]
  rw [if_neg (by omega)]
  rw [if_neg (by omega)]
  rw [if_pos (by omega)]
theorem fields_14 {w : Wr} (h : w.kd = 20) : fieldsW w = (posN w.ep && (posN w.ke && posN w.ki)) := by
  unfold fieldsW
  rw [if_neg (by omega)]
  rw [if_neg (by omega)]
  rw [if_neg (by omega)]
  rw [if_neg (by omega)]
  rw [if_neg (by omega)]
  rw [if_neg (by omega)]
  rw [if_neg (by omega)]
  rw [if_neg (by omega)]
  rw [if_neg (by omega)]
  rw [if_neg (by omega)]
  rw [if_neg (by omega)]
  rw [if_neg (by omega)]
  rw [if_neg (by omega)]
  rw [if_neg (by omega)]
  rw [if_pos (by omega)]
theorem fields_x {w : Wr} (h : w.kd = 13) : fieldsW w = (posN w.ep) := by
  unfold fieldsW
  rw [if_neg (by omega)]
  rw [if_neg (by omega)]
  rw [if_neg (by omega)]
  rw [if_neg (by omega)]
  rw [if_neg (by omega)]
  rw [if_neg (by omega)]
  rw [if_neg (by omega)]
  rw [if_neg (by omega)]
  rw [if_neg (by omega)]
  rw [if_neg (by omega)]
  rw [if_neg (by omega)]
  rw [if_neg (by omega)]
  rw [if_neg (by omega)]
  rw [if_neg (by omega)]
  rw [if_neg (by omega)]
  rw [if_pos (by omega)]
theorem fields_y {w : Wr} (h : w.kd < 1 ∨ w.kd > 20) : fieldsW w = false := by
  unfold fieldsW
  rw [if_neg (by omega)]
  rw [if_neg (by omega)]
  rw [if_neg (by omega)]
  rw [if_neg (by omega)]
  rw [if_neg (by omega)]
  rw [if_neg (by omega)]
  rw [if_neg (by omega)]
  rw [if_neg (by omega)]
  rw [if_neg (by omega)]
  rw [if_neg (by omega)]
  rw [if_neg (by omega)]
  rw [if_neg (by omega)]
  rw [if_neg (by omega)]
  rw [if_neg (by omega)]
  rw [if_neg (by omega)]
  rw [if_neg (by omega)]
theorem body_0 {k r : Int} (h : k = 1 ∨ k = 11) : bodyC k r = mapB posC (fun p => { wr0 k r with rq := p }) (fun w => w.rq) := by
  unfold bodyC
  rw [if_neg (by omega)]
  rw [if_neg (by omega)]
  rw [if_neg (by omega)]
  rw [if_neg (by omega)]
  rw [if_neg (by omega)]
  rw [if_neg (by omega)]
  rw [if_neg (by omega)]
  rw [if_neg (by omega)]
theorem body_1 {k r : Int} (h : k = 2 ∨ k = 3 ∨ k = 7) : bodyC k r = mapB (pair posC posC) (fun p => { wr0 k r with rq := p.1, ep := p.2 }) (fun w => (w.rq, w.ep)) := by
  unfold bodyC
  rw [if_neg (by omega)]
  rw [if_pos (by omega)]
theorem body_2 {k r : Int} (h : k = 4) : bodyC k r = mapB (pair posC (pair posC regC)) (fun p => { wr0 k r with rq := p.1, ep := p.2.1, to := p.2.2 }) (fun w => (w.rq, w.ep, w.to)) := by
  unfold bodyC
  rw [if_neg (by omega)]
  rw [if_neg (by omega)]
  rw [if_pos (by omega)]
theorem body_3 {k r : Int} (h : k = 5) : bodyC k r = mapB (pair posC (pair posC flagC)) (fun p => { wr0 k r with rq := p.1, ep := p.2.1, fl := p.2.2 }) (fun w => (w.rq, w.ep, w.fl)) := by
  unfold bodyC
  rw [if_neg (by omega)]
  rw [if_neg (by omega)]
  rw [if_neg (by omega)]
  rw [if_pos (by omega)]
theorem body_4 {k r : Int} (h : k = 6) : bodyC k r = mapB (pair posC (pair (int 1 5) (pair numC (pair flagC errC)))) (fun p => { wr0 k r with rq := p.1, dd := p.2.1, ep := p.2.2.1, fl := p.2.2.2.1, er := p.2.2.2.2 }) (fun w => (w.rq, w.dd, w.ep, w.fl, w.er)) := by
  unfold bodyC
  rw [if_neg (by omega)]
  rw [if_neg (by omega)]
  rw [if_neg (by omega)]
  rw [if_neg (by omega)]
  rw [if_pos (by omega)]
theorem body_5 {k r : Int} (h : k = 8) : bodyC k r = mapB (pair posC txC) (fun p => { wr0 k r with rq := p.1, tx := p.2 }) (fun w => (w.rq, w.tx)) := by
  unfold bodyC
  rw [if_neg (by omega)]
  rw [if_neg (by omega)]
  rw [if_neg (by omega)]
  rw [if_neg (by omega)]
  rw [if_neg (by omega)]
  rw [if_pos (by omega)]
theorem body_6 {k r : Int} (h : k = 9 ∨ k = 10) : bodyC k r = mapB (pair posC keyC) (fun p => { wr0 k r with rq := p.1, ke := p.2.1, ki := p.2.2 }) (fun w => (w.rq, (w.ke, w.ki))) := by
  unfold bodyC
  rw [if_neg (by omega)]
  rw [if_neg (by omega)]
  rw [if_neg (by omega)]
  rw [if_neg (by omega)]
  rw [if_neg (by omega)]
  rw [if_neg (by omega)]
  rw [if_pos (by omega)]
theorem body_7 {k r : Int} (h : k = 12) : bodyC k r = mapB (pair posC (pair (int 7 11) (pair numC (pair numC (pair numC (pair numC (pair vecC errC))))))) (fun p => { wr0 k r with rq := p.1, dd := p.2.1, ke := p.2.2.1, ki := p.2.2.2.1, ep := p.2.2.2.2.1, ln := p.2.2.2.2.2.1, vc := p.2.2.2.2.2.2.1, er := p.2.2.2.2.2.2.2 }) (fun w => (w.rq, w.dd, w.ke, w.ki, w.ep, w.ln, w.vc, w.er)) := by
  unfold bodyC
  rw [if_neg (by omega)]
  rw [if_neg (by omega)]
  rw [if_neg (by omega)]
  rw [if_neg (by omega)]
  rw [if_neg (by omega)]
  rw [if_neg (by omega)]
  rw [if_neg (by omega)]
  rw [if_pos (by omega)]
theorem body_8 {k r : Int} (h : k = 14) : bodyC k r = mapB (pair posC (pair posC (list 1 4 tabC))) (fun p => { wr0 k r with ep := p.1, nm := p.2.1, tb := p.2.2 }) (fun w => (w.ep, w.nm, w.tb)) := by
  unfold bodyC
  rw [if_pos (by omega)]
  rw [if_pos (by omega)]
theorem body_9 {k r : Int} (h : k = 15) : bodyC k r = mapB (pair posC (pair posC vecC)) (fun p => { wr0 k r with ep := p.1, nm := p.2.1, vc := p.2.2 }) (fun w => (w.ep, w.nm, w.vc)) := by
  unfold bodyC
  rw [if_pos (by omega)]
  rw [if_neg (by omega)]
  rw [if_pos (by omega)]
theorem body_10 {k r : Int} (h : k = 17) : bodyC k r = mapB (pair posC vecC) (fun p => { wr0 k r with ep := p.1, vc := p.2 }) (fun w => (w.ep, w.vc)) := by
  unfold bodyC
  rw [if_pos (by omega)]
  rw [if_neg (by omega)]
  rw [if_neg (by omega)]
  rw [if_pos (by omega)]
theorem body_11 {k r : Int} (h : k = 16) : bodyC k r = mapB (pair posC (pair (int 0 3) (pair numC (list 1 8 entC)))) (fun p => { wr0 k r with ep := p.1, pt := p.2.1, ps := p.2.2.1, en := p.2.2.2 }) (fun w => (w.ep, w.pt, w.ps, w.en)) := by
  unfold bodyC
  rw [if_pos (by omega)]
  rw [if_neg (by omega)]
  rw [if_neg (by omega)]
  rw [if_neg (by omega)]
  rw [if_pos (by omega)]
theorem body_12 {k r : Int} (h : k = 18) : bodyC k r = mapB (pair posC (pair keyC (pair numC (str 131072)))) (fun p => { wr0 k r with ep := p.1, ke := p.2.1.1, ki := p.2.1.2, ch := p.2.2.1, by_ := p.2.2.2 }) (fun w => (w.ep, (w.ke, w.ki), w.ch, w.by_)) := by
  unfold bodyC
  rw [if_pos (by omega)]
  rw [if_neg (by omega)]
  rw [if_neg (by omega)]
  rw [if_neg (by omega)]
  rw [if_neg (by omega)]
  rw [if_pos (by omega)]
theorem body_13 {k r : Int} (h : k = 19) : bodyC k r = mapB (pair posC (pair keyC (int (-1) 9007199254740992))) (fun p => { wr0 k r with ep := p.1, ke := p.2.1.1, ki := p.2.1.2, ch := p.2.2 }) (fun w => (w.ep, (w.ke, w.ki), w.ch)) := by
  unfold bodyC
  rw [if_pos (by omega)]
  rw [if_neg (by omega)]
  rw [if_neg (by omega)]
  rw [if_neg (by omega)]
  rw [if_neg (by omega)]
  rw [if_neg (by omega)]
  rw [if_pos (by omega)]
theorem body_14 {k r : Int} (h : k = 20) : bodyC k r = mapB (pair posC keyC) (fun p => { wr0 k r with ep := p.1, ke := p.2.1, ki := p.2.2 }) (fun w => (w.ep, (w.ke, w.ki))) := by
  unfold bodyC
  rw [if_pos (by omega)]
  rw [if_neg (by omega)]
  rw [if_neg (by omega)]
  rw [if_neg (by omega)]
  rw [if_neg (by omega)]
  rw [if_neg (by omega)]
  rw [if_neg (by omega)]
  rw [if_pos (by omega)]
theorem body_x {k r : Int} (h : k = 13) : bodyC k r = mapB posC (fun p => { wr0 k r with ep := p }) (fun w => w.ep) := by
  unfold bodyC
  rw [if_pos (by omega)]
  rw [if_neg (by omega)]
  rw [if_neg (by omega)]
  rw [if_neg (by omega)]
  rw [if_neg (by omega)]
  rw [if_neg (by omega)]
  rw [if_neg (by omega)]
  rw [if_neg (by omega)]
theorem body_y {k r : Int} (h : k < 1) : bodyC k r = mapB posC (fun p => { wr0 k r with rq := p }) (fun w => w.rq) := by
  unfold bodyC
  rw [if_neg (by omega)]
  rw [if_neg (by omega)]
  rw [if_neg (by omega)]
  rw [if_neg (by omega)]
  rw [if_neg (by omega)]
  rw [if_neg (by omega)]
  rw [if_neg (by omega)]
  rw [if_neg (by omega)]
theorem sameW_eq {a b : Wr} (h : sameW a b = true) : a = b := by
  obtain ⟨⟨h1, h2, h3, h4, h5, h6, h7, h8, h9, h10, h11, h12, h13, h14, h15⟩, ⟨h16, h17, h18, h19⟩, h20⟩ := sameW_iff.1 h
  unfold sameT at h16
  simp only [Bool.and_eq_true, decide_eq_true_eq] at h16
  obtain ⟨⟨⟨⟨t1, t2⟩, t3⟩, t4⟩, t5⟩ := h16
  rcases a with ⟨a1, a2, a3, a4, a5, a6, a7, a8, ⟨x1, x2, x3, x4, x5⟩, a9, a10, a11, a12, a13, a14, a15, a16, a17, a18, a19⟩
  rcases b with ⟨b1, b2, b3, b4, b5, b6, b7, b8, ⟨y1, y2, y3, y4, y5⟩, b9, b10, b11, b12, b13, b14, b15, b16, b17, b18, b19⟩
  dsimp only at *
  subst h1 h2 h3 h4 h5 h6 h7 h8 h9 h10 h11 h12 h13 h14 h15 h17 h18 h19 h20 t1 t2 t3 t4 t5
  rfl
structure Wr.In (w : Wr) : Prop extends w.Sz where
  rI : ∀ n ∈ w.tx.r, I6 n.1 ∧ I6 n.2
  eI : ∀ x ∈ w.en, (toEn x).okE
theorem pxN {n : Int} (h : posN n = true) : posC.ok n := posN_iff.1 h
theorem nxN {n : Int} (h : numN n = true) : numC.ok n := numN_iff.1 h
theorem rxN {n : Int} (h : regB n = true) : regC.ok n := by unfold regB at h; simp at h; exact ⟨h.1, by omega⟩
theorem exN {n : Int} (h : errB n = true) : errC.ok n := by unfold errB at h; simp at h; exact ⟨h.1, by omega⟩
theorem fxN (b : Bool) : flagC.ok b := by cases b <;> exact ⟨⟨by decide, by decide⟩, rfl⟩
theorem vxN {l : List Int} (h : vecB l = true) : vecC.ok l := by
  unfold vecB at h
  simp only [Bool.and_eq_true, decide_eq_true_eq, List.all_eq_true] at h
  exact ⟨⟨by omega, by omega⟩, fun n hn => nxN (h.2 n hn)⟩
theorem flat_mem {α : Type} {f : α → List Int} : ∀ {l : List α} {a : α}, a ∈ l → (f a).length ≤ (l.flatMap f).length
  | b :: l, a, h => by
    rw [List.flatMap_cons, List.length_append]
    rcases List.mem_cons.1 h with rfl | h
    · omega
    · have := flat_mem (f := f) h; omega
theorem Byt.flat {α : Type} {f : α → List Int} : ∀ {l : List α}, (∀ a ∈ l, Byt (f a)) → Byt (l.flatMap f)
  | [], _ => fun x h => by cases h
  | a :: l, h => by rw [List.flatMap_cons]; exact (h a (List.mem_cons_self ..)).append (Byt.flat (fun b hb => h b (List.mem_cons_of_mem _ hb)))
theorem txI_byt (t : Tx) : Byt (txI.put t) := (form_byt _).append ((form_byt _).append ((form_byt _).append (((form_byt _).append (Byt.flat fun a _ => (form_byt _).append (form_byt _))).append ((form_byt _).append (Byt.flat fun a _ => form_byt _)))))
theorem numI {n : Int} (h : numN n = true) : I6 n := by have := numN_iff.1 h; exact ⟨by omega, by omega⟩
theorem txN {t : Tx} (h : txB t = true) (hr : ∀ n ∈ t.r, I6 n.1 ∧ I6 n.2) (hl : (txI.put t).length ≤ 131072) : txC.ok t := by
  unfold txB at h
  simp only [Bool.and_eq_true, decide_eq_true_eq, List.all_eq_true] at h
  obtain ⟨⟨⟨⟨⟨h1, h2⟩, h3⟩, h4⟩, h5⟩, h6⟩ := h
  exact ⟨⟨numI h1, numI h2, numI h3, ⟨⟨by show (0 : Int) ≤ (t.r.length : Int); omega, by show (t.r.length : Int) ≤ 262144; omega⟩, fun n hn => hr n hn⟩, ⟨⟨by show (0 : Int) ≤ (t.v.length : Int); omega, by show (t.v.length : Int) ≤ 262144; omega⟩, fun n hn => numI (h4 n hn)⟩⟩, by show (((txI.put t).length : Nat) : Int) ≤ 131072; omega, txI_byt t⟩
theorem tbN {l : List (List Q4 × Int)} (h : tabsB l = true) (hl : (l.flatMap tabC.put).length ≤ 131072) : (list 1 4 tabC).ok l := by
  unfold tabsB at h
  simp only [Bool.and_eq_true, decide_eq_true_eq, List.all_eq_true] at h
  refine ⟨⟨by omega, by omega⟩, fun t ht => ⟨h.2 t ht, ?_, Tb.bytes_byt _⟩⟩
  have := flat_mem (f := tabC.put) ht
  have e : (tabC.put t).length = (form (((toTb t).bytes.length : Nat) : Int)).length + (toTb t).bytes.length := List.length_append
  show (((toTb t).bytes.length : Nat) : Int) ≤ 131072
  omega
theorem en_len {x : Q4} (ho : (toEn x).okE) : (toEn x).bytes.length ≤ 40 := by
  unfold En.bytes; split
  · simp
  · rename_i h
    have := forms_len' (toEn x).four (En.four_i64 ho (by simpa using h))
    simp only [En.four, List.length_cons, List.length_nil] at *
    omega
theorem enN {p q : Int} {l : List Q4} (h : chkB p q (l.map toEn) = 0) (ho : ∀ x ∈ l, (toEn x).okE) : (int 0 3).ok p ∧ numC.ok q ∧ (list 1 8 entC).ok l := by
  unfold chkB at h
  split at h
  · cases h
  · rename_i h1
    split at h
    · cases h
    · rename_i h2
      rw [List.length_map] at h1
      refine ⟨⟨by omega, by omega⟩, ⟨by omega, by omega⟩, ⟨by omega, by omega⟩, fun x hx => ?_⟩
      have hc : (toEn x).chk = 0 := by
        by_cases e : (toEn x).chk = 0
        · exact e
        · exact absurd (List.any_eq_true.2 ⟨toEn x, List.mem_map_of_mem hx, by simpa using e⟩) h2
      refine ⟨⟨hc, ho x hx⟩, ?_, En.bytes_byt _⟩
      have := en_len (ho x hx)
      show (((toEn x).bytes.length : Nat) : Int) ≤ 131072
      omega
def chkW (w : Wr) : Int := if (kindW w && regB w.rg && fieldsW w && sameW w (bareW w)) = true then 0 else 240
theorem chkW_iff {w : Wr} : chkW w = 0 ↔ kindW w = true ∧ regB w.rg = true ∧ fieldsW w = true ∧ sameW w (bareW w) = true := by
  unfold chkW
  constructor
  · intro h
    split at h
    · rename_i k; simp only [Bool.and_eq_true] at k; exact ⟨k.1.1.1, k.1.1.2, k.1.2, k.2⟩
    · cases h
  · rintro ⟨h1, h2, h3, h4⟩
    rw [h1, h2, h3, h4]; rfl
theorem put_msg (w : Wr) : msgC.put w = form w.kd ++ (form w.rg ++ (bodyC w.kd w.rg).put w) := rfl
theorem ok_0 {w : Wr} (hk : w.kd = 1 ∨ w.kd = 11) (hi : w.In) (e : w = bareW w) (hf : fieldsW w = true) (hl : ((bodyC w.kd w.rg).put w).length ≤ 131072) : (bodyC w.kd w.rg).ok w := by
  rw [fields_0 hk] at hf
  have h1 := hf
  rw [bare_0 hk] at e
  refine Eq.mpr (congrArg (fun c : Codec Wr => c.ok w) (body_0 hk)) ?_
  exact ⟨pxN h1, e.symm⟩
theorem ok_1 {w : Wr} (hk : w.kd = 2 ∨ w.kd = 3 ∨ w.kd = 7) (hi : w.In) (e : w = bareW w) (hf : fieldsW w = true) (hl : ((bodyC w.kd w.rg).put w).length ≤ 131072) : (bodyC w.kd w.rg).ok w := by
  rw [fields_1 hk] at hf
  simp only [Bool.and_eq_true, decide_eq_true_eq] at hf
  obtain ⟨h1, h2⟩ := hf
  rw [bare_1 hk] at e
  refine Eq.mpr (congrArg (fun c : Codec Wr => c.ok w) (body_1 hk)) ?_
  exact ⟨⟨pxN h1, pxN h2⟩, e.symm⟩
theorem ok_2 {w : Wr} (hk : w.kd = 4) (hi : w.In) (e : w = bareW w) (hf : fieldsW w = true) (hl : ((bodyC w.kd w.rg).put w).length ≤ 131072) : (bodyC w.kd w.rg).ok w := by
  rw [fields_2 hk] at hf
  simp only [Bool.and_eq_true, decide_eq_true_eq] at hf
  obtain ⟨⟨h1, h2⟩, h3⟩ := hf
  rw [bare_2 hk] at e
  refine Eq.mpr (congrArg (fun c : Codec Wr => c.ok w) (body_2 hk)) ?_
  exact ⟨⟨pxN h1, pxN h2, rxN h3⟩, e.symm⟩
theorem ok_3 {w : Wr} (hk : w.kd = 5) (hi : w.In) (e : w = bareW w) (hf : fieldsW w = true) (hl : ((bodyC w.kd w.rg).put w).length ≤ 131072) : (bodyC w.kd w.rg).ok w := by
  rw [fields_3 hk] at hf
  simp only [Bool.and_eq_true, decide_eq_true_eq] at hf
  obtain ⟨h1, h2⟩ := hf
  rw [bare_3 hk] at e
  refine Eq.mpr (congrArg (fun c : Codec Wr => c.ok w) (body_3 hk)) ?_
  exact ⟨⟨pxN h1, pxN h2, fxN _⟩, e.symm⟩
theorem ok_4 {w : Wr} (hk : w.kd = 6) (hi : w.In) (e : w = bareW w) (hf : fieldsW w = true) (hl : ((bodyC w.kd w.rg).put w).length ≤ 131072) : (bodyC w.kd w.rg).ok w := by
  rw [fields_4 hk] at hf
  simp only [Bool.and_eq_true, decide_eq_true_eq] at hf
  obtain ⟨⟨⟨h1, h2, h2'⟩, h3⟩, h4⟩ := hf
  rw [bare_4 hk] at e
  refine Eq.mpr (congrArg (fun c : Codec Wr => c.ok w) (body_4 hk)) ?_
  exact ⟨⟨pxN h1, ⟨h2, h2'⟩, nxN h3, fxN _, exN h4⟩, e.symm⟩
theorem ok_5 {w : Wr} (hk : w.kd = 8) (hi : w.In) (e : w = bareW w) (hf : fieldsW w = true) (hl : ((bodyC w.kd w.rg).put w).length ≤ 131072) : (bodyC w.kd w.rg).ok w := by
  rw [fields_5 hk] at hf
  simp only [Bool.and_eq_true, decide_eq_true_eq] at hf
  obtain ⟨h1, h2⟩ := hf
  rw [bare_5 hk] at e
  refine Eq.mpr (congrArg (fun c : Codec Wr => c.ok w) (body_5 hk)) ?_
  have q : (txI.put w.tx).length ≤ 131072 := by
    rw [body_5 hk] at hl
    have e : (txC.put w.tx).length = (form (((txI.put w.tx).length : Nat) : Int)).length + (txI.put w.tx).length := List.length_append
    have e2 : (form w.rq ++ txC.put w.tx).length ≤ 131072 := hl
    rw [List.length_append] at e2; omega
  exact ⟨⟨pxN h1, txN h2 hi.rI q⟩, e.symm⟩
theorem ok_6 {w : Wr} (hk : w.kd = 9 ∨ w.kd = 10) (hi : w.In) (e : w = bareW w) (hf : fieldsW w = true) (hl : ((bodyC w.kd w.rg).put w).length ≤ 131072) : (bodyC w.kd w.rg).ok w := by
  rw [fields_6 hk] at hf
  simp only [Bool.and_eq_true, decide_eq_true_eq] at hf
  obtain ⟨h1, h2, h3⟩ := hf
  rw [bare_6 hk] at e
  refine Eq.mpr (congrArg (fun c : Codec Wr => c.ok w) (body_6 hk)) ?_
  exact ⟨⟨pxN h1, pxN h2, pxN h3⟩, e.symm⟩
theorem ok_7 {w : Wr} (hk : w.kd = 12) (hi : w.In) (e : w = bareW w) (hf : fieldsW w = true) (hl : ((bodyC w.kd w.rg).put w).length ≤ 131072) : (bodyC w.kd w.rg).ok w := by
  rw [fields_7 hk] at hf
  simp only [Bool.and_eq_true, decide_eq_true_eq] at hf
  obtain ⟨⟨⟨⟨h1, h2, h2'⟩, ⟨⟨h3, h4⟩, h5⟩, h6⟩, h7⟩, h8⟩ := hf
  rw [bare_7 hk] at e
  refine Eq.mpr (congrArg (fun c : Codec Wr => c.ok w) (body_7 hk)) ?_
  exact ⟨⟨pxN h1, ⟨h2, h2'⟩, nxN h3, nxN h4, nxN h5, nxN h6, vxN h7, exN h8⟩, e.symm⟩
theorem ok_8 {w : Wr} (hk : w.kd = 14) (hi : w.In) (e : w = bareW w) (hf : fieldsW w = true) (hl : ((bodyC w.kd w.rg).put w).length ≤ 131072) : (bodyC w.kd w.rg).ok w := by
  rw [fields_8 hk] at hf
  simp only [Bool.and_eq_true, decide_eq_true_eq] at hf
  obtain ⟨⟨h1, h2⟩, h3⟩ := hf
  rw [bare_8 hk] at e
  refine Eq.mpr (congrArg (fun c : Codec Wr => c.ok w) (body_8 hk)) ?_
  have q : (w.tb.flatMap tabC.put).length ≤ 131072 := by
    rw [body_8 hk] at hl
    have e : (form w.ep ++ (form w.nm ++ (form (w.tb.length : Int) ++ w.tb.flatMap tabC.put))).length ≤ 131072 := hl
    simp only [List.length_append] at e; omega
  exact ⟨⟨pxN h1, pxN h2, tbN h3 q⟩, e.symm⟩
theorem ok_9 {w : Wr} (hk : w.kd = 15) (hi : w.In) (e : w = bareW w) (hf : fieldsW w = true) (hl : ((bodyC w.kd w.rg).put w).length ≤ 131072) : (bodyC w.kd w.rg).ok w := by
  rw [fields_9 hk] at hf
  simp only [Bool.and_eq_true, decide_eq_true_eq] at hf
  obtain ⟨⟨h1, h2⟩, h3⟩ := hf
  rw [bare_9 hk] at e
  refine Eq.mpr (congrArg (fun c : Codec Wr => c.ok w) (body_9 hk)) ?_
  exact ⟨⟨pxN h1, pxN h2, vxN h3⟩, e.symm⟩
theorem ok_10 {w : Wr} (hk : w.kd = 17) (hi : w.In) (e : w = bareW w) (hf : fieldsW w = true) (hl : ((bodyC w.kd w.rg).put w).length ≤ 131072) : (bodyC w.kd w.rg).ok w := by
  rw [fields_10 hk] at hf
  simp only [Bool.and_eq_true, decide_eq_true_eq] at hf
  obtain ⟨h1, h2⟩ := hf
  rw [bare_10 hk] at e
  refine Eq.mpr (congrArg (fun c : Codec Wr => c.ok w) (body_10 hk)) ?_
  exact ⟨⟨pxN h1, vxN h2⟩, e.symm⟩
theorem ok_11 {w : Wr} (hk : w.kd = 16) (hi : w.In) (e : w = bareW w) (hf : fieldsW w = true) (hl : ((bodyC w.kd w.rg).put w).length ≤ 131072) : (bodyC w.kd w.rg).ok w := by
  rw [fields_11 hk] at hf
  simp only [Bool.and_eq_true, decide_eq_true_eq] at hf
  obtain ⟨h1, h2⟩ := hf
  rw [bare_11 hk] at e
  refine Eq.mpr (congrArg (fun c : Codec Wr => c.ok w) (body_11 hk)) ?_
  exact ⟨⟨pxN h1, enN h2 hi.eI⟩, e.symm⟩
theorem ok_12 {w : Wr} (hk : w.kd = 18) (hi : w.In) (e : w = bareW w) (hf : fieldsW w = true) (hl : ((bodyC w.kd w.rg).put w).length ≤ 131072) : (bodyC w.kd w.rg).ok w := by
  rw [fields_12 hk] at hf
  simp only [Bool.and_eq_true, decide_eq_true_eq] at hf
  obtain ⟨⟨h1, h2, h3⟩, h4⟩ := hf
  rw [bare_12 hk] at e
  refine Eq.mpr (congrArg (fun c : Codec Wr => c.ok w) (body_12 hk)) ?_
  have q : ((w.by_.length : Nat) : Int) ≤ 131072 := by
    rw [body_12 hk] at hl
    have e : (form w.ep ++ ((form w.ke ++ form w.ki) ++ (form w.ch ++ (form (w.by_.length : Int) ++ w.by_)))).length ≤ 131072 := hl
    simp only [List.length_append] at e; omega
  exact ⟨⟨pxN h1, ⟨pxN h2, pxN h3⟩, nxN h4, q, hi.b⟩, e.symm⟩
theorem ok_13 {w : Wr} (hk : w.kd = 19) (hi : w.In) (e : w = bareW w) (hf : fieldsW w = true) (hl : ((bodyC w.kd w.rg).put w).length ≤ 131072) : (bodyC w.kd w.rg).ok w := by
  rw [fields_13 hk] at hf
  simp only [Bool.and_eq_true, decide_eq_true_eq] at hf
  obtain ⟨⟨h1, h2, h3⟩, h4, h4'⟩ := hf
  rw [bare_13 hk] at e
  refine Eq.mpr (congrArg (fun c : Codec Wr => c.ok w) (body_13 hk)) ?_
  exact ⟨⟨pxN h1, ⟨pxN h2, pxN h3⟩, h4, h4'⟩, e.symm⟩
theorem ok_14 {w : Wr} (hk : w.kd = 20) (hi : w.In) (e : w = bareW w) (hf : fieldsW w = true) (hl : ((bodyC w.kd w.rg).put w).length ≤ 131072) : (bodyC w.kd w.rg).ok w := by
  rw [fields_14 hk] at hf
  simp only [Bool.and_eq_true, decide_eq_true_eq] at hf
  obtain ⟨h1, h2, h3⟩ := hf
  rw [bare_14 hk] at e
  refine Eq.mpr (congrArg (fun c : Codec Wr => c.ok w) (body_14 hk)) ?_
  exact ⟨⟨pxN h1, pxN h2, pxN h3⟩, e.symm⟩
theorem ok_x {w : Wr} (hk : w.kd = 13) (hi : w.In) (e : w = bareW w) (hf : fieldsW w = true) (hl : ((bodyC w.kd w.rg).put w).length ≤ 131072) : (bodyC w.kd w.rg).ok w := by
  rw [fields_x hk] at hf
  have h1 := hf
  rw [bare_x (by omega)] at e
  rw [body_x hk]
  exact ⟨pxN h1, e.symm⟩
theorem ok_msg {w : Wr} (h : chkW w = 0) (hi : w.In) (hl : (msgC.put w).length ≤ 131072) : msgC.ok w := by
  obtain ⟨h1, h2, h3, h4⟩ := chkW_iff.1 h
  have e := sameW_eq h4
  have hk : 1 ≤ w.kd ∧ w.kd ≤ 20 := by unfold kindW at h1; simpa using h1
  rw [put_msg, List.length_append, List.length_append] at hl
  have hl' : ((bodyC w.kd w.rg).put w).length ≤ 131072 := by omega
  refine ⟨hk, rxN h2, ?_⟩
  show (bodyC w.kd w.rg).ok w
  rcases (by omega : (w.kd = 1 ∨ w.kd = 11) ∨ (w.kd = 2 ∨ w.kd = 3 ∨ w.kd = 7) ∨ (w.kd = 4) ∨ (w.kd = 5) ∨ (w.kd = 6) ∨ (w.kd = 8) ∨ (w.kd = 9 ∨ w.kd = 10) ∨ (w.kd = 12) ∨ (w.kd = 14) ∨ (w.kd = 15) ∨ (w.kd = 17) ∨ (w.kd = 16) ∨ (w.kd = 18) ∨ (w.kd = 19) ∨ (w.kd = 20) ∨ (w.kd = 13)) with k | k | k | k | k | k | k | k | k | k | k | k | k | k | k | k
  · exact ok_0 k hi e h3 hl'
  · exact ok_1 k hi e h3 hl'
  · exact ok_2 k hi e h3 hl'
  · exact ok_3 k hi e h3 hl'
  · exact ok_4 k hi e h3 hl'
  · exact ok_5 k hi e h3 hl'
  · exact ok_6 k hi e h3 hl'
  · exact ok_7 k hi e h3 hl'
  · exact ok_8 k hi e h3 hl'
  · exact ok_9 k hi e h3 hl'
  · exact ok_10 k hi e h3 hl'
  · exact ok_11 k hi e h3 hl'
  · exact ok_12 k hi e h3 hl'
  · exact ok_13 k hi e h3 hl'
  · exact ok_14 k hi e h3 hl'
  · exact ok_x k hi e h3 hl'
/-- The sizes of what is read. -/
theorem in_0 (k r : Int) {w : Wr} (h1 : w.tx = txz0) (h2 : w.vc.length ≤ 1048576) (h3 : w.tb = []) (h4 : w.en = []) (h5 : w.by_ = []) : w.In := by
  refine ⟨⟨by rw [h1]; exact Nat.zero_le _, by rw [h1]; exact Nat.zero_le _, h2, by rw [h3]; exact Nat.zero_le _, fun t ht => (by rw [h3] at ht; cases ht), by rw [h4]; exact Nat.zero_le _, by rw [h5]; exact Nat.zero_le _, fun x hx => (by rw [h5] at hx; cases hx), by rw [h5]; exact Nat.zero_le _⟩, fun n hn => (by rw [h1] at hn; cases hn), fun x hx => (by rw [h4] at hx; cases hx)⟩
theorem in_b0 {k r : Int} {w : Wr} (hk : k = 1 ∨ k = 11) (h : (bodyC k r).ok w) : w.In := by
  rw [body_0 hk] at h
  obtain ⟨h, e⟩ := h
  exact in_0 k r (by rw [← e] <;> rfl) (by rw [← e]; exact Nat.zero_le _) (by rw [← e] <;> rfl) (by rw [← e] <;> rfl) (by rw [← e] <;> rfl)
theorem in_b1 {k r : Int} {w : Wr} (hk : k = 2 ∨ k = 3 ∨ k = 7) (h : (bodyC k r).ok w) : w.In := by
  rw [body_1 hk] at h
  obtain ⟨h, e⟩ := h
  exact in_0 k r (by rw [← e] <;> rfl) (by rw [← e]; exact Nat.zero_le _) (by rw [← e] <;> rfl) (by rw [← e] <;> rfl) (by rw [← e] <;> rfl)
theorem in_b2 {k r : Int} {w : Wr} (hk : k = 4) (h : (bodyC k r).ok w) : w.In := by
  rw [body_2 hk] at h
  obtain ⟨h, e⟩ := h
  exact in_0 k r (by rw [← e] <;> rfl) (by rw [← e]; exact Nat.zero_le _) (by rw [← e] <;> rfl) (by rw [← e] <;> rfl) (by rw [← e] <;> rfl)
theorem in_b3 {k r : Int} {w : Wr} (hk : k = 5) (h : (bodyC k r).ok w) : w.In := by
  rw [body_3 hk] at h
  obtain ⟨h, e⟩ := h
  exact in_0 k r (by rw [← e] <;> rfl) (by rw [← e]; exact Nat.zero_le _) (by rw [← e] <;> rfl) (by rw [← e] <;> rfl) (by rw [← e] <;> rfl)
theorem in_b4 {k r : Int} {w : Wr} (hk : k = 6) (h : (bodyC k r).ok w) : w.In := by
  rw [body_4 hk] at h
  obtain ⟨h, e⟩ := h
  exact in_0 k r (by rw [← e] <;> rfl) (by rw [← e]; exact Nat.zero_le _) (by rw [← e] <;> rfl) (by rw [← e] <;> rfl) (by rw [← e] <;> rfl)
theorem in_b5 {k r : Int} {w : Wr} (hk : k = 8) (h : (bodyC k r).ok w) : w.In := by
  rw [body_5 hk] at h
  obtain ⟨h, e⟩ := h
  obtain ⟨_, ⟨h2, h3⟩⟩ := h
  obtain ⟨_, _, _, ⟨⟨_, hr⟩, hr'⟩, ⟨⟨_, hv⟩, _⟩⟩ := h2
  replace hr : ((w.tx.r.length : Nat) : Int) ≤ 262144 := hr
  replace hv : ((w.tx.v.length : Nat) : Int) ≤ 262144 := hv
  rw [← e]
  exact ⟨⟨by dsimp only; omega, by dsimp only; omega, Nat.zero_le _, Nat.zero_le _, fun t ht => (by cases ht), Nat.zero_le _, Nat.zero_le _, fun x hx => (by cases hx), Nat.zero_le _⟩, fun n hn => hr' n hn, fun x hx => (by cases hx)⟩
theorem in_b6 {k r : Int} {w : Wr} (hk : k = 9 ∨ k = 10) (h : (bodyC k r).ok w) : w.In := by
  rw [body_6 hk] at h
  obtain ⟨h, e⟩ := h
  exact in_0 k r (by rw [← e] <;> rfl) (by rw [← e]; exact Nat.zero_le _) (by rw [← e] <;> rfl) (by rw [← e] <;> rfl) (by rw [← e] <;> rfl)
theorem in_b7 {k r : Int} {w : Wr} (hk : k = 12) (h : (bodyC k r).ok w) : w.In := by
  rw [body_7 hk] at h
  obtain ⟨h, e⟩ := h
  exact in_0 k r (by rw [← e] <;> rfl) (by have hv : vecC.ok w.vc := h.2.2.2.2.2.2.1; have : ((w.vc.length : Nat) : Int) ≤ 4 := hv.1.2; omega) (by rw [← e] <;> rfl) (by rw [← e] <;> rfl) (by rw [← e] <;> rfl)
theorem in_b8 {k r : Int} {w : Wr} (hk : k = 14) (h : (bodyC k r).ok w) : w.In := by
  rw [body_8 hk] at h
  obtain ⟨h, e⟩ := h
  obtain ⟨_, _, ⟨⟨_, ht⟩, ht'⟩⟩ := h
  replace ht : ((w.tb.length : Nat) : Int) ≤ 4 := ht
  rw [← e]
  exact ⟨⟨Nat.zero_le _, Nat.zero_le _, Nat.zero_le _, by dsimp only; omega, fun t h => (by
    have hc : (toTb t).chk = 0 := (ht' t h).1
    have := Tb.good_chk.1 hc
    unfold Tb.good at this
    simp only [Bool.and_eq_true, decide_eq_true_eq] at this
    have h4 : (t.1.map toSp).length ≤ 4096 := this.1.2
    rw [List.length_map] at h4; omega), Nat.zero_le _, Nat.zero_le _, fun x hx => (by cases hx), Nat.zero_le _⟩, fun n hn => (by cases hn), fun x hx => (by cases hx)⟩
theorem in_b9 {k r : Int} {w : Wr} (hk : k = 15) (h : (bodyC k r).ok w) : w.In := by
  rw [body_9 hk] at h
  obtain ⟨h, e⟩ := h
  exact in_0 k r (by rw [← e] <;> rfl) (by have hv : vecC.ok w.vc := h.2.2; have : ((w.vc.length : Nat) : Int) ≤ 4 := hv.1.2; omega) (by rw [← e] <;> rfl) (by rw [← e] <;> rfl) (by rw [← e] <;> rfl)
theorem in_b10 {k r : Int} {w : Wr} (hk : k = 17) (h : (bodyC k r).ok w) : w.In := by
  rw [body_10 hk] at h
  obtain ⟨h, e⟩ := h
  exact in_0 k r (by rw [← e] <;> rfl) (by have hv : vecC.ok w.vc := h.2; have : ((w.vc.length : Nat) : Int) ≤ 4 := hv.1.2; omega) (by rw [← e] <;> rfl) (by rw [← e] <;> rfl) (by rw [← e] <;> rfl)
theorem in_b11 {k r : Int} {w : Wr} (hk : k = 16) (h : (bodyC k r).ok w) : w.In := by
  rw [body_11 hk] at h
  obtain ⟨h, e⟩ := h
  obtain ⟨_, _, _, ⟨⟨_, ht⟩, ht'⟩⟩ := h
  replace ht : ((w.en.length : Nat) : Int) ≤ 8 := ht
  rw [← e]
  exact ⟨⟨Nat.zero_le _, Nat.zero_le _, Nat.zero_le _, Nat.zero_le _, fun t ht => (by cases ht), by dsimp only; omega, Nat.zero_le _, fun x hx => (by cases hx), Nat.zero_le _⟩, fun n hn => (by cases hn), fun x hx => (ht' x hx).1.2⟩
theorem in_b12 {k r : Int} {w : Wr} (hk : k = 18) (h : (bodyC k r).ok w) : w.In := by
  rw [body_12 hk] at h
  obtain ⟨h, e⟩ := h
  obtain ⟨_, _, _, ⟨hb, hb'⟩⟩ := h
  replace hb : ((w.by_.length : Nat) : Int) ≤ 131072 := hb
  rw [← e]
  exact ⟨⟨Nat.zero_le _, Nat.zero_le _, Nat.zero_le _, Nat.zero_le _, fun t ht => (by cases ht), Nat.zero_le _, by show w.by_.length ≤ _; omega, hb', by dsimp only; omega⟩, fun n hn => (by cases hn), fun x hx => (by cases hx)⟩
theorem in_b13 {k r : Int} {w : Wr} (hk : k = 19) (h : (bodyC k r).ok w) : w.In := by
  rw [body_13 hk] at h
  obtain ⟨h, e⟩ := h
  exact in_0 k r (by rw [← e] <;> rfl) (by rw [← e]; exact Nat.zero_le _) (by rw [← e] <;> rfl) (by rw [← e] <;> rfl) (by rw [← e] <;> rfl)
theorem in_b14 {k r : Int} {w : Wr} (hk : k = 20) (h : (bodyC k r).ok w) : w.In := by
  rw [body_14 hk] at h
  obtain ⟨h, e⟩ := h
  exact in_0 k r (by rw [← e] <;> rfl) (by rw [← e]; exact Nat.zero_le _) (by rw [← e] <;> rfl) (by rw [← e] <;> rfl) (by rw [← e] <;> rfl)
theorem in_bx {k r : Int} {w : Wr} (hk : k = 13) (h : (bodyC k r).ok w) : w.In := by
  rw [body_x hk] at h
  obtain ⟨h, e⟩ := h
  exact in_0 k r (by rw [← e] <;> rfl) (by rw [← e]; exact Nat.zero_le _) (by rw [← e] <;> rfl) (by rw [← e] <;> rfl) (by rw [← e] <;> rfl)
theorem in_msg {w : Wr} (h : msgC.ok w) : w.In := by
  obtain ⟨hk, _, hb⟩ := h
  replace hk : 1 ≤ w.kd ∧ w.kd ≤ 20 := hk
  replace hb : (bodyC w.kd w.rg).ok w := hb
  rcases (by omega : (w.kd = 1 ∨ w.kd = 11) ∨ (w.kd = 2 ∨ w.kd = 3 ∨ w.kd = 7) ∨ (w.kd = 4) ∨ (w.kd = 5) ∨ (w.kd = 6) ∨ (w.kd = 8) ∨ (w.kd = 9 ∨ w.kd = 10) ∨ (w.kd = 12) ∨ (w.kd = 14) ∨ (w.kd = 15) ∨ (w.kd = 17) ∨ (w.kd = 16) ∨ (w.kd = 18) ∨ (w.kd = 19) ∨ (w.kd = 20) ∨ (w.kd = 13)) with k | k | k | k | k | k | k | k | k | k | k | k | k | k | k | k
  · exact in_b0 k hb
  · exact in_b1 k hb
  · exact in_b2 k hb
  · exact in_b3 k hb
  · exact in_b4 k hb
  · exact in_b5 k hb
  · exact in_b6 k hb
  · exact in_b7 k hb
  · exact in_b8 k hb
  · exact in_b9 k hb
  · exact in_b10 k hb
  · exact in_b11 k hb
  · exact in_b12 k hb
  · exact in_b13 k hb
  · exact in_b14 k hb
  · exact in_bx k hb
abbrev wz0 : Wr := wr0 0 0
def parW (b : List Int) : Wr × Int :=
  if b.length > 131072 then (wz0, 3) else if (msgC.get ⟨b, 0⟩).2.close ≠ 0 then (wz0, (msgC.get ⟨b, 0⟩).2.close) else if chkW (msgC.get ⟨b, 0⟩).1 ≠ 0 then (wz0, chkW (msgC.get ⟨b, 0⟩).1) else ((msgC.get ⟨b, 0⟩).1, 0)
def bytW (w : Wr) : List Int × Int := if chkW w ≠ 0 then ([], chkW w) else if (msgC.put w).length > 131072 then ([], 3) else (msgC.put w, 0)
theorem byt_ok {w : Wr} (h : (bytW w).2 = 0) : chkW w = 0 ∧ (msgC.put w).length ≤ 131072 ∧ bytW w = (msgC.put w, 0) := by
  unfold bytW at h ⊢
  split at h
  · rename_i k; exact absurd h k
  · rename_i k
    split at h
    · cases h
    · rename_i k2
      rw [if_neg k, if_neg k2]
      exact ⟨by simpa using k, by omega, rfl⟩
theorem bytW_of {w : Wr} (h : chkW w = 0) (hl : (msgC.put w).length ≤ 131072) : bytW w = (msgC.put w, 0) := by
  unfold bytW
  rw [if_neg (by simpa using h), if_neg (by omega)]
theorem back_fwd {a : Wr} (hi : a.In) (h : (bytW a).2 = 0) : parW (bytW a).1 = (a, 0) := by
  obtain ⟨h1, h2, h3⟩ := byt_ok h
  rw [h3]
  have h4 := msgC_law.fwd a [] (ok_msg h1 hi h2)
  rw [List.append_nil] at h4
  unfold parW
  dsimp only
  rw [if_neg (by omega), h4, if_neg (by simp [Up.close]), if_neg (by simpa using h1)]
theorem back_same {a b : Wr} (ha : a.In) (hb : b.In) (h : (bytW a).2 = 0) (k : (bytW b).2 = 0) : decide ((bytW a).1 = (bytW b).1) = sameW a b := by
  have e1 := back_fwd ha h
  have e2 := back_fwd hb k
  by_cases e : (bytW a).1 = (bytW b).1
  · rw [e, e2] at e1
    have : b = a := congrArg Prod.fst e1
    subst this
    rw [sameW_self]; exact decide_eq_true rfl
  · rw [decide_eq_false e]
    cases q : sameW a b with
    | false => rfl
    | true => exact absurd (by rw [sameW_eq q]) e
theorem back_bwd {p : List Int} (hp : Byt p) (h : (parW p).2 = 0) : (parW p).1.In ∧ bytW (parW p).1 = (p, 0) := by
  unfold parW at h ⊢
  split at h
  · cases h
  · rename_i k1
    rw [if_neg k1]
    split at h
    · rename_i k2; exact absurd h k2
    · rename_i k2
      rw [if_neg k2]
      split at h
      · rename_i k3; exact absurd h k3
      · rename_i k3
        rw [if_neg k3]
        obtain ⟨q1, q2⟩ := parse_bwd (z := wz0) msgC_law hp (by unfold Codec.parse; rw [if_neg k2])
        have q3 : (Codec.parse msgC wz0 p).1 = (msgC.get ⟨p, 0⟩).1 := by unfold Codec.parse; rw [if_neg k2]
        rw [q3] at q1 q2
        refine ⟨in_msg q2, ?_⟩
        have := bytW_of (w := (msgC.get ⟨p, 0⟩).1) (by simpa using k3) (by rw [← q1]; omega)
        dsimp only
        rw [this, ← q1]
end Go.Abs

/- Plain: the first place in a list; counts, positions. -/
set_option linter.unusedVariables false
set_option linter.unusedSimpArgs false
namespace Go.Abs
def idxN {α : Type} (q : α → Bool) (l : List α) : Int := if l.any q = true then (l.findIdx q : Int) else -1
theorem idxN_hit {α : Type} {q : α → Bool} : ∀ {l : List α} {i : Nat} {x : α}, (∀ n ∈ l.take i, q n = false) → l[i]? = some x → q x = true → idxN q l = (i : Int) := by
  intro l i x h hx hq
  have ha : l.any q = true := List.any_eq_true.2 ⟨x, List.mem_of_getElem? hx, hq⟩
  unfold idxN
  rw [if_pos ha]
  have key : ∀ (l : List α) (i : Nat), (∀ n ∈ l.take i, q n = false) → l[i]? = some x → l.findIdx q = i := by
    intro l
    induction l with
    | nil => intro i _ hx; simp at hx
    | cons a l ih =>
      intro i h hx
      cases i with
      | zero => simp at hx; subst hx; rw [List.findIdx_cons, hq]; rfl
      | succ i =>
        have h1 := h a (by simp)
        rw [List.findIdx_cons, h1]
        have := ih i (fun n hn => h n (by rw [List.take_succ_cons]; exact List.mem_cons_of_mem _ hn)) (by simpa using hx)
        rw [this]; rfl
  rw [key l i h hx]
theorem idxN_none {α : Type} {q : α → Bool} {l : List α} (h : ∀ n ∈ l, q n = false) : idxN q l = -1 := by
  unfold idxN
  rw [if_neg]
  intro e
  obtain ⟨x, hx, hq⟩ := List.any_eq_true.1 e
  rw [h x hx] at hq; cases hq
theorem idxN_ge {α : Type} {q : α → Bool} {l : List α} : decide (idxN q l ≥ 0) = l.any q := by
  unfold idxN
  split
  · rename_i h; rw [h]; exact decide_eq_true (by omega)
  · rename_i h; rw [Bool.eq_false_iff.2 h]; exact decide_eq_false (by omega)
theorem no_next {α : Type} {q : α → Bool} {l : List α} {i : Nat} {x : α} (h : ∀ n ∈ l.take i, q n = false) (hx : l[i]? = some x) (hq : q x = false) : ∀ n ∈ l.take (i + 1), q n = false := by
  intro n hn
  rw [take_snoc hx] at hn
  rcases List.mem_append.1 hn with hn | hn
  · exact h n hn
  · simp at hn; subst hn; exact hq
theorem any_all {α : Type} {q : α → Bool} {l : List α} : (!(l.any fun n => !q n)) = l.all q := by
  induction l with
  | nil => rfl
  | cons a l ih => simp only [List.any_cons, List.all_cons, Bool.not_or, Bool.not_not, ih]
theorem all_pos {l : List Int} : (l.all numN && !(l.any fun n => decide (n = 0))) = l.all posN := by
  induction l with
  | nil => rfl
  | cons a l ih =>
    simp only [List.all_cons, List.any_cons, Bool.not_or, ← ih]
    have : posN a = (numN a && !decide (a = 0)) := by
      unfold posN numN
      rw [Bool.eq_iff_iff]
      simp
      omega
    rw [this]
    cases numN a <;> cases decide (a = 0) <;> cases l.all numN <;> rfl
theorem pos_1 (a : Int) : [a].all posN = posN a := by simp
theorem pos_2 (a b : Int) : [a, b].all posN = (posN a && posN b) := by simp
theorem num_1 (a : Int) : [a].all numN = numN a := by simp
theorem num_3 (a b c : Int) : [a, b, c].all numN = (numN a && numN b && numN c) := by simp [Bool.and_assoc]
theorem num_4 (a b c d : Int) : [a, b, c, d].all numN = (numN a && numN b && numN c && numN d) := by simp [Bool.and_assoc]
theorem bareW_sz {a : Wr} (h : a.Sz) : (bareW a).Sz := by
  have z : ∀ n : Nat, 0 ≤ n := Nat.zero_le
  have key : ∀ b : Wr, (b.tx = a.tx ∨ b.tx = txz0) → (b.vc = a.vc ∨ b.vc = []) → (b.tb = a.tb ∨ b.tb = []) → (b.en = a.en ∨ b.en = []) → (b.by_ = a.by_ ∨ b.by_ = []) → b.Sz := by
    intro b h1 h2 h3 h4 h5
    refine ⟨?_, ?_, ?_, ?_, ?_, ?_, ?_, ?_, ?_⟩
    · rcases h1 with e | e <;> rw [e]; exact h.r; exact z _
    · rcases h1 with e | e <;> rw [e]; exact h.v; exact z _
    · rcases h2 with e | e <;> rw [e]; exact h.c; exact z _
    · rcases h3 with e | e <;> rw [e]; exact h.t; exact z _
    · rcases h3 with e | e <;> rw [e]; exact h.s; exact fun t ht => by cases ht
    · rcases h4 with e | e <;> rw [e]; exact h.e; exact z _
    · rcases h5 with e | e <;> rw [e]; exact h.l; exact z _
    · rcases h5 with e | e <;> rw [e]; exact h.b; exact fun t ht => by cases ht
    · rcases h5 with e | e <;> rw [e]; exact h.m; exact z _
  have ite : ∀ (p : Prop) [Decidable p] (b c : Wr), b.Sz → c.Sz → (if p then b else c).Sz := fun p _ b c h g => by split <;> assumption
  unfold bareW
  repeat' (refine ite _ _ _ ?_ ?_)
  all_goals exact key _ (by first | exact .inl rfl | exact .inr rfl) (by first | exact .inl rfl | exact .inr rfl) (by first | exact .inl rfl | exact .inr rfl) (by first | exact .inl rfl | exact .inr rfl) (by first | exact .inl rfl | exact .inr rfl)
theorem chkW_no {w : Wr} (h : (kindW w && regB w.rg && fieldsW w && sameW w (bareW w)) = false) : chkW w = 240 := by unfold chkW; rw [if_neg (by rw [h]; simp)]
theorem chkW_yes {w : Wr} (h : (kindW w && regB w.rg && fieldsW w && sameW w (bareW w)) = true) : chkW w = 0 := by unfold chkW; rw [if_pos h]
end Go.Abs

/- Plain: what is put is bytes. -/
set_option linter.unusedVariables false
set_option linter.unusedSimpArgs false
namespace Go.Abs
namespace Codec
variable {α β : Type}
def Pb (c : Codec α) : Prop := ∀ a, c.ok a → Byt (c.put a)
theorem int_pb {lo hi : Int} : (int lo hi).Pb := fun n _ => form_byt n
theorem pair_pb {c : Codec α} {d : Codec β} (h : c.Pb) (g : d.Pb) : (pair c d).Pb := fun x hx => (h _ hx.1).append (g _ hx.2)
theorem mapB_pb {c : Codec α} {f : α → β} {g : β → α} (h : c.Pb) : (mapB c f g).Pb := fun x hx => h _ hx.1
theorem str_pb {m : Int} : (str m).Pb := fun x hx => (form_byt _).append hx.2
theorem list_pb {lo hi : Int} {c : Codec α} (h : c.Pb) : (list lo hi c).Pb := fun l hl => (form_byt _).append (Byt.flat fun a ha => h a (hl.2 a ha))
theorem within_pb {m : Int} {put : α → List Int} {prs : List Int → α × Int} {z : α} {x : Int} {ok : α → Prop} : (within m put prs z x ok).Pb := fun a ha => str_pb _ ha.2
theorem dep_pb {c : Codec Int} {d : Int → Codec β} {k : β → Int} (h : c.Pb) (g : ∀ n, (d n).Pb) : (dep c d k).Pb := fun x hx => (h _ hx.1).append (g _ _ hx.2)
theorem ite_pb {p : Prop} [Decidable p] {c d : Codec α} (h : c.Pb) (g : d.Pb) : (if p then c else d).Pb := by split <;> assumption
end Codec
open Codec
theorem body_pb (k r : Int) : (bodyC k r).Pb := by
  have P : posC.Pb := int_pb
  have K : keyC.Pb := pair_pb int_pb int_pb
  have V : vecC.Pb := list_pb int_pb
  have F : flagC.Pb := mapB_pb int_pb
  have X : txC.Pb := within_pb
  have T : (list 1 4 tabC).Pb := list_pb within_pb
  have E : (list 1 8 entC).Pb := list_pb within_pb
  unfold bodyC
  repeat' (refine ite_pb ?_ ?_)
  all_goals refine mapB_pb ?_
  all_goals repeat' (first | exact P | exact K | exact V | exact F | exact X | exact T | exact E | exact int_pb | exact str_pb | refine pair_pb ?_ ?_)
theorem msg_pb : msgC.Pb := dep_pb int_pb fun k => dep_pb int_pb fun r => body_pb k r
theorem bytW_byt {a : Wr} (ha : a.In) : Byt (bytW a).1 := by
  unfold bytW
  split
  · exact fun x hx => by cases hx
  · rename_i h
    split
    · exact fun x hx => by cases hx
    · rename_i h2; exact msg_pb a (ok_msg (by simpa using h) ha (by omega))
theorem bytW_len (a : Wr) : (bytW a).1.length ≤ 131072 := by
  unfold bytW
  split
  · simp
  · split
    · simp
    · rename_i h2; dsimp only; omega
end Go.Abs

/- Regions that draw their order: what waits for what is told by paths, not searched for. -/
set_option linter.unusedVariables false
set_option linter.unusedSimpArgs false
namespace Go.Abs
variable {P : Program} {N : Nat} {ops : Array Oper} {Q : Exit → Tm → List Ob → Prop} {tm : Tm} {S : List Ob}
def pathC (ops : Array Oper) : Nat → List Nat → Bool
  | _, [] => true
  | a, b :: r => (match ops[b]? with | some o => o.after.any fun e => Region.binds .any e && Nat.beq e.on a | none => false) && pathC ops b r
def lastOf : Nat → List Nat → Nat
  | a, [] => a
  | _, b :: r => lastOf b r
theorem path_closed {L : Nat → Bool} (hc : Closed ops L) : ∀ (r : List Nat) (a : Nat), pathC ops a r = true → L (lastOf a r) = true → L a = true
  | [], a, _, h => h
  | b :: r, a, hp, h => by
    rw [pathC, Bool.and_eq_true] at hp
    have hb : L b = true := path_closed hc r b hp.2 h
    have h1 := hp.1
    cases ho : ops[b]? with
    | none => rw [ho] at h1; cases h1
    | some o =>
      rw [ho] at h1
      simp only at h1
      rw [← Array.any_toList, List.any_eq_true] at h1
      obtain ⟨e, he, h2⟩ := h1
      rw [Bool.and_eq_true] at h2
      have := hc b o ho hb e (Array.mem_toList_iff.1 he) h2.1
      rw [Nat.eq_of_beq_eq_true h2.2] at this; exact this
def bitO : List Nat → List Bool → Nat → Option Bool
  | w :: ws, b :: p, x => bif Nat.beq w x then some b else bitO ws p x
  | _, _, _ => none
theorem bitO_map {L : Nat → Bool} {x : Nat} {b : Bool} : ∀ {ws : List Nat}, bitO ws (ws.map L) x = some b → b = L x
  | [], h => by cases h
  | w :: ws, h => by
    rw [List.map_cons, bitO] at h
    cases e : Nat.beq w x with
    | true => rw [e] at h; have := Option.some.inj h; rw [← this, Nat.eq_of_beq_eq_true e]
    | false => rw [e] at h; exact bitO_map h
def yesO : Option Bool → Bool
  | some true => true
  | _ => false
def noO : Option Bool → Bool
  | some false => true
  | _ => false
def claimB (k : Nat) (ws : List Nat) (p : List Bool) (a : Nat) (r : List Nat) : Bool :=
  bif Nat.beq a k then (bif Nat.beq (lastOf a r) k then true else !(yesO (bitO ws p (lastOf a r)))) else bif Nat.beq (lastOf a r) k then !(noO (bitO ws p a)) else !(yesO (bitO ws p (lastOf a r)) && noO (bitO ws p a))
def tabPaths (ops : Array Oper) (k : Nat) (ws : List Nat) (pats : List (List Bool)) (cl : List (Nat × List Nat)) : Bool :=
  (cl.all fun c => pathC ops c.1 c.2) && (bitsOf ws.length).all fun p => pats.contains p || !(!(yesO (bitO ws p k)) && cl.all fun c => claimB k ws p c.1 c.2)
theorem yesO_map {L : Nat → Bool} {x : Nat} {ws : List Nat} (h : yesO (bitO ws (ws.map L) x) = true) : L x = true := by
  cases e : bitO ws (ws.map L) x with
  | none => rw [e] at h; cases h
  | some b => rw [e] at h; cases b with
    | true => exact (bitO_map e).symm
    | false => cases h
theorem noO_map {L : Nat → Bool} {x : Nat} {ws : List Nat} (h : noO (bitO ws (ws.map L) x) = true) : L x = false := by
  cases e : bitO ws (ws.map L) x with
  | none => rw [e] at h; cases h
  | some b => rw [e] at h; cases b with
    | false => exact (bitO_map e).symm
    | true => cases h
theorem ready_mark {L : Nat → Bool} {k : Nat} {o : Oper} (ho : ops[k]? = some o) (hr : Ready ops k o L) : Closed ops (mark L k) := by
  intro j p hp' hj e he hb
  by_cases ej : j = k
  · subst ej
    have : p = o := by rw [hp'] at ho; exact Option.some.inj ho
    subst this
    by_cases e2 : e.on = j
    · rw [e2, mark_same]
    · rw [mark_other _ e2]; exact hr.pre e he hb
  · rw [mark_other _ ej] at hj
    by_cases e2 : e.on = k
    · rw [e2, mark_same]
    · rw [mark_other _ e2]; exact hr.closed j p hp' hj e he hb
theorem claim_of {L : Nat → Bool} {k : Nat} {o : Oper} (ho : ops[k]? = some o) (hr : Ready ops k o L) (ws : List Nat) {a : Nat} {r : List Nat} (hp : pathC ops a r = true) : claimB k ws (ws.map L) a r = true := by
  have hcm := ready_mark ho hr
  unfold claimB
  cases ea : Nat.beq a k with
  | true =>
    have ea' := Nat.eq_of_beq_eq_true ea
    subst ea'
    cases el : Nat.beq (lastOf a r) a with
    | true => rfl
    | false =>
      cases hy : yesO (bitO ws (ws.map L) (lastOf a r)) with
      | false => rfl
      | true => have := path_closed hr.closed r a hp (yesO_map hy); rw [hr.un] at this; cases this
  | false =>
    cases el : Nat.beq (lastOf a r) k with
    | true =>
      have el' := Nat.eq_of_beq_eq_true el
      cases hn : noO (bitO ws (ws.map L) a) with
      | false => rfl
      | true =>
        have h1 := path_closed hcm r a hp (by rw [el']; exact mark_same L k)
        rw [mark_other _ (fun e => by rw [e, Nat.beq_refl] at ea; cases ea), noO_map hn] at h1; cases h1
    | false =>
      cases hy : yesO (bitO ws (ws.map L) (lastOf a r)) with
      | false => rfl
      | true =>
        cases hn : noO (bitO ws (ws.map L) a) with
        | false => rfl
        | true => have h1 := path_closed hr.closed r a hp (yesO_map hy); rw [noO_map hn] at h1; cases h1
theorem Walk.casesC {R : Tm → Prop} {k : Nat} {o : Oper} {rest : List Oper} {d : D} {rs : List Nat} {es : List D} {ws : List Nat} {T : List Bool → List Ob} (cl : List (Nat × List Nat)) (cs : List (List Bool × List Ob × List Ob))
    (ho : ops[k]? = some o) (hp : tabPaths ops k ws (cs.map (·.1)) cl = true) (hrs : (rs.all fun s => (o.looksAt ops).contains s) = true) (hes : rs.map tm = es)
    (h : ∀ base : Tm, StepAll P N ops o d T k ws (putAll rs es base) cs)
    (next : Walk P N ops (OT T ws) R (k + 1) rest (putO tm o.dst d)) : Walk P N ops (OT T ws) R k (o :: rest) tm := by
  refine Walk.op hrs hes (fun L hr base => ?_) next
  rw [tabPaths, Bool.and_eq_true] at hp
  have hmem : ws.map L ∈ cs.map (·.1) := by
    have hb := mem_bits (ws.map L)
    rw [List.length_map] at hb
    have h1 := List.all_eq_true.1 hp.2 _ hb
    have h2 : (cl.all fun c => claimB k ws (ws.map L) c.1 c.2) = true := List.all_eq_true.2 fun c hc => claim_of ho hr ws (List.all_eq_true.1 hp.1 c hc)
    have h3 : yesO (bitO ws (ws.map L) k) = false := by
      cases e : yesO (bitO ws (ws.map L) k) with
      | false => rfl
      | true => have := yesO_map e; rw [hr.un] at this; cases this
    rw [h2, h3] at h1
    simpa using h1
  have key := (h base).get (ws.map L) hmem
  have e2 : (ws.zip (ws.map L)).map (fun x => Nat.beq x.1 k || x.2) = ws.map (mark L k) := by
    refine List.ext_getElem (by simp) fun i h1 h2 => ?_
    simp only [List.getElem_map, List.getElem_zip]
    unfold mark
    have h3 : i < ws.length := by simpa using h1
    cases Nat.beq (ws[i]'h3) k <;> rfl
  rw [e2] at key
  exact key
end Go.Abs

/- Plain: the numbers of messages that may be; what each kind puts. -/
set_option linter.unusedVariables false
set_option linter.unusedSimpArgs false
namespace Go.Abs
open Codec
theorem pI {n : Int} (h : posN n = true) : I6 n := by have := posN_iff.1 h; exact ⟨by omega, by omega⟩
theorem rI6 {n : Int} (h : regB n = true) : I6 n := by have h' := rxN h; have h2 : 0 ≤ n ∧ n ≤ 1 := h'; exact ⟨by omega, by omega⟩
theorem eI6 {n : Int} (h : errB n = true) : I6 n := by have h' := exN h; have h2 : 0 ≤ n ∧ n ≤ 65536 := h'; exact ⟨by omega, by omega⟩
theorem vI {l : List Int} (h : vecB l = true) : ∀ n ∈ l, I6 n := by
  unfold vecB at h
  simp only [Bool.and_eq_true, decide_eq_true_eq, List.all_eq_true] at h
  exact fun n hn => numI (h.2 n hn)
theorem tI {t : Tx} (h : txB t = true) : (I6 t.e ∧ I6 t.i ∧ I6 t.b) ∧ ∀ n ∈ t.v, I6 n := by
  unfold txB at h
  simp only [Bool.and_eq_true, decide_eq_true_eq, List.all_eq_true] at h
  obtain ⟨⟨⟨⟨⟨h1, h2⟩, h3⟩, h4⟩, h5⟩, h6⟩ := h
  exact ⟨⟨numI h1, numI h2, numI h3⟩, fun n hn => numI (h4 n hn)⟩
theorem bI {p q : Int} {l : List En} (h : chkB p q l = 0) : I6 p := by
  unfold chkB at h
  split at h
  · cases h
  · exact ⟨by omega, by omega⟩
theorem bI2 {p q : Int} {l : List En} (h : chkB p q l = 0) : I6 q := by
  unfold chkB at h
  split at h
  · cases h
  · exact ⟨by omega, by omega⟩
theorem i6_nil : ∀ n ∈ ([] : List Int), I6 n := fun n h => by cases h
theorem i6_cons {a : Int} {l : List Int} (h : I6 a) (g : ∀ n ∈ l, I6 n) : ∀ n ∈ a :: l, I6 n := fun n hn => by rcases List.mem_cons.1 hn with rfl | hn; exact h; exact g n hn
theorem fI (b : Bool) : I6 (if b then 1 else 0) := by cases b <;> exact ⟨by decide, by decide⟩
theorem kI {w : Wr} (h : chkW w = 0) : I6 w.kd ∧ I6 w.rg ∧ fieldsW w = true := by
  obtain ⟨h1, h2, h3, h4⟩ := chkW_iff.1 h
  unfold kindW at h1
  simp at h1
  exact ⟨⟨by omega, by omega⟩, rI6 h2, h3⟩
theorem kind_y {w : Wr} (h : chkW w = 0) (k : w.kd < 1 ∨ w.kd > 20) : False := by
  obtain ⟨h1, h2, h3, h4⟩ := chkW_iff.1 h
  unfold kindW at h1
  simp at h1
  omega
theorem bytW_no {w : Wr} (h : chkW w ≠ 0) : bytW w = ([], chkW w) := by unfold bytW; rw [if_pos h]
theorem bytW_long {w : Wr} (h : chkW w = 0) {x : List Int} (e : x = msgC.put w) (hl : (x.length : Int) > 131072) : bytW w = ([], 3) := by subst e; unfold bytW; rw [if_neg (by simpa using h), if_pos (by omega)]
theorem bytW_yes {w : Wr} (h : chkW w = 0) {x : List Int} (e : x = msgC.put w) (hl : ¬((x.length : Int) > 131072)) : bytW w = (x, 0) := by subst e; unfold bytW; rw [if_neg (by simpa using h), if_neg (by omega)]
theorem nums_0 {w : Wr} (h : w.kd = 1 ∨ w.kd = 11) (hf : fieldsW w = true) : I6 w.rq := by
  rw [fields_0 h] at hf
  have h1 := hf
  exact pI h1
theorem put_0 {w : Wr} (h : w.kd = 1 ∨ w.kd = 11) : msgC.put w = form w.kd ++ (form w.rg ++ form w.rq) := by
  rw [put_msg]
  refine congrArg (fun x => form w.kd ++ (form w.rg ++ x)) ?_
  rw [body_0 h]
  rfl
theorem nums_1 {w : Wr} (h : w.kd = 2 ∨ w.kd = 3 ∨ w.kd = 7) (hf : fieldsW w = true) : I6 w.rq ∧ I6 w.ep := by
  rw [fields_1 h] at hf
  simp only [Bool.and_eq_true, decide_eq_true_eq] at hf
  obtain ⟨h1, h2⟩ := hf
  exact ⟨pI h1, pI h2⟩
theorem put_1 {w : Wr} (h : w.kd = 2 ∨ w.kd = 3 ∨ w.kd = 7) : msgC.put w = form w.kd ++ (form w.rg ++ (form w.rq ++ form w.ep)) := by
  rw [put_msg]
  refine congrArg (fun x => form w.kd ++ (form w.rg ++ x)) ?_
  rw [body_1 h]
  rfl
theorem nums_2 {w : Wr} (h : w.kd = 4) (hf : fieldsW w = true) : I6 w.rq ∧ I6 w.ep ∧ I6 w.to := by
  rw [fields_2 h] at hf
  simp only [Bool.and_eq_true, decide_eq_true_eq] at hf
  obtain ⟨⟨h1, h2⟩, h3⟩ := hf
  exact ⟨pI h1, pI h2, rI6 h3⟩
theorem put_2 {w : Wr} (h : w.kd = 4) : msgC.put w = form w.kd ++ (form w.rg ++ (form w.rq ++ (form w.ep ++ form w.to))) := by
  rw [put_msg]
  refine congrArg (fun x => form w.kd ++ (form w.rg ++ x)) ?_
  rw [body_2 h]
  rfl
theorem nums_3 {w : Wr} (h : w.kd = 5) (hf : fieldsW w = true) : I6 w.rq ∧ I6 w.ep := by
  rw [fields_3 h] at hf
  simp only [Bool.and_eq_true, decide_eq_true_eq] at hf
  obtain ⟨h1, h2⟩ := hf
  exact ⟨pI h1, pI h2⟩
theorem put_3 {w : Wr} (h : w.kd = 5) : msgC.put w = form w.kd ++ (form w.rg ++ (form w.rq ++ (form w.ep ++ form (if w.fl then 1 else 0)))) := by
  rw [put_msg]
  refine congrArg (fun x => form w.kd ++ (form w.rg ++ x)) ?_
  rw [body_3 h]
  rfl
theorem nums_4 {w : Wr} (h : w.kd = 6) (hf : fieldsW w = true) : I6 w.rq ∧ I6 w.dd ∧ I6 w.ep ∧ I6 w.er := by
  rw [fields_4 h] at hf
  simp only [Bool.and_eq_true, decide_eq_true_eq] at hf
  obtain ⟨⟨⟨h1, h2, h2'⟩, h3⟩, h4⟩ := hf
  exact ⟨pI h1, ⟨by omega, by omega⟩, numI h3, eI6 h4⟩
theorem put_4 {w : Wr} (h : w.kd = 6) : msgC.put w = form w.kd ++ (form w.rg ++ (form w.rq ++ (form w.dd ++ (form w.ep ++ (form (if w.fl then 1 else 0) ++ form w.er))))) := by
  rw [put_msg]
  refine congrArg (fun x => form w.kd ++ (form w.rg ++ x)) ?_
  rw [body_4 h]
  rfl
theorem nums_5 {w : Wr} (h : w.kd = 8) (hf : fieldsW w = true) : I6 w.rq ∧ ((I6 w.tx.e ∧ I6 w.tx.i ∧ I6 w.tx.b) ∧ ∀ n ∈ w.tx.v, I6 n) := by
  rw [fields_5 h] at hf
  simp only [Bool.and_eq_true, decide_eq_true_eq] at hf
  obtain ⟨h1, h2⟩ := hf
  exact ⟨pI h1, tI h2⟩
theorem put_5 {w : Wr} (h : w.kd = 8) : msgC.put w = form w.kd ++ (form w.rg ++ (form w.rq ++ (form (((txI.put w.tx).length : Nat) : Int) ++ txI.put w.tx))) := by
  rw [put_msg]
  refine congrArg (fun x => form w.kd ++ (form w.rg ++ x)) ?_
  rw [body_5 h]
  rfl
theorem nums_6 {w : Wr} (h : w.kd = 9 ∨ w.kd = 10) (hf : fieldsW w = true) : I6 w.rq ∧ I6 w.ke ∧ I6 w.ki := by
  rw [fields_6 h] at hf
  simp only [Bool.and_eq_true, decide_eq_true_eq] at hf
  obtain ⟨h1, h2, h3⟩ := hf
  exact ⟨pI h1, pI h2, pI h3⟩
theorem put_6 {w : Wr} (h : w.kd = 9 ∨ w.kd = 10) : msgC.put w = form w.kd ++ (form w.rg ++ (form w.rq ++ (form w.ke ++ form w.ki))) := by
  rw [put_msg]
  refine congrArg (fun x => form w.kd ++ (form w.rg ++ x)) ?_
  rw [body_6 h]
  rfl
theorem nums_7 {w : Wr} (h : w.kd = 12) (hf : fieldsW w = true) : I6 w.rq ∧ I6 w.dd ∧ I6 w.ke ∧ I6 w.ki ∧ I6 w.ep ∧ I6 w.ln ∧ (∀ n ∈ w.vc, I6 n) ∧ I6 w.er := by
  rw [fields_7 h] at hf
  simp only [Bool.and_eq_true, decide_eq_true_eq] at hf
  obtain ⟨⟨⟨⟨h1, h2, h2'⟩, ⟨⟨h3, h4⟩, h5⟩, h6⟩, h7⟩, h8⟩ := hf
  exact ⟨pI h1, ⟨by omega, by omega⟩, numI h3, numI h4, numI h5, numI h6, vI h7, eI6 h8⟩
theorem put_7 {w : Wr} (h : w.kd = 12) : msgC.put w = form w.kd ++ (form w.rg ++ (form w.rq ++ (form w.dd ++ (form w.ke ++ (form w.ki ++ (form w.ep ++ (form w.ln ++ ((form (w.vc.length : Int) ++ w.vc.flatMap form) ++ form w.er)))))))) := by
  rw [put_msg]
  refine congrArg (fun x => form w.kd ++ (form w.rg ++ x)) ?_
  rw [body_7 h]
  rfl
theorem nums_8 {w : Wr} (h : w.kd = 14) (hf : fieldsW w = true) : I6 w.ep ∧ I6 w.nm := by
  rw [fields_8 h] at hf
  simp only [Bool.and_eq_true, decide_eq_true_eq] at hf
  obtain ⟨⟨h1, h2⟩, h3⟩ := hf
  exact ⟨pI h1, pI h2⟩
theorem put_8 {w : Wr} (h : w.kd = 14) : msgC.put w = form w.kd ++ (form w.rg ++ (form w.ep ++ (form w.nm ++ (form (w.tb.length : Int) ++ w.tb.flatMap tabC.put)))) := by
  rw [put_msg]
  refine congrArg (fun x => form w.kd ++ (form w.rg ++ x)) ?_
  rw [body_8 h]
  rfl
theorem nums_9 {w : Wr} (h : w.kd = 15) (hf : fieldsW w = true) : I6 w.ep ∧ I6 w.nm ∧ (∀ n ∈ w.vc, I6 n) := by
  rw [fields_9 h] at hf
  simp only [Bool.and_eq_true, decide_eq_true_eq] at hf
  obtain ⟨⟨h1, h2⟩, h3⟩ := hf
  exact ⟨pI h1, pI h2, vI h3⟩
theorem put_9 {w : Wr} (h : w.kd = 15) : msgC.put w = form w.kd ++ (form w.rg ++ (form w.ep ++ (form w.nm ++ (form (w.vc.length : Int) ++ w.vc.flatMap form)))) := by
  rw [put_msg]
  refine congrArg (fun x => form w.kd ++ (form w.rg ++ x)) ?_
  rw [body_9 h]
  rfl
theorem nums_10 {w : Wr} (h : w.kd = 17) (hf : fieldsW w = true) : I6 w.ep ∧ (∀ n ∈ w.vc, I6 n) := by
  rw [fields_10 h] at hf
  simp only [Bool.and_eq_true, decide_eq_true_eq] at hf
  obtain ⟨h1, h2⟩ := hf
  exact ⟨pI h1, vI h2⟩
theorem put_10 {w : Wr} (h : w.kd = 17) : msgC.put w = form w.kd ++ (form w.rg ++ (form w.ep ++ (form (w.vc.length : Int) ++ w.vc.flatMap form))) := by
  rw [put_msg]
  refine congrArg (fun x => form w.kd ++ (form w.rg ++ x)) ?_
  rw [body_10 h]
  rfl
theorem nums_11 {w : Wr} (h : w.kd = 16) (hf : fieldsW w = true) : I6 w.ep ∧ I6 w.pt ∧ I6 w.ps := by
  rw [fields_11 h] at hf
  simp only [Bool.and_eq_true, decide_eq_true_eq] at hf
  obtain ⟨h1, h2⟩ := hf
  exact ⟨pI h1, bI h2, bI2 h2⟩
theorem put_11 {w : Wr} (h : w.kd = 16) : msgC.put w = form w.kd ++ (form w.rg ++ (form w.ep ++ (form w.pt ++ (form w.ps ++ (form (w.en.length : Int) ++ w.en.flatMap entC.put))))) := by
  rw [put_msg]
  refine congrArg (fun x => form w.kd ++ (form w.rg ++ x)) ?_
  rw [body_11 h]
  rfl
theorem nums_12 {w : Wr} (h : w.kd = 18) (hf : fieldsW w = true) : I6 w.ep ∧ I6 w.ke ∧ I6 w.ki ∧ I6 w.ch := by
  rw [fields_12 h] at hf
  simp only [Bool.and_eq_true, decide_eq_true_eq] at hf
  obtain ⟨⟨h1, h2, h3⟩, h4⟩ := hf
  exact ⟨pI h1, pI h2, pI h3, numI h4⟩
theorem put_12 {w : Wr} (h : w.kd = 18) : msgC.put w = form w.kd ++ (form w.rg ++ (form w.ep ++ ((form w.ke ++ form w.ki) ++ (form w.ch ++ (form (w.by_.length : Int) ++ w.by_))))) := by
  rw [put_msg]
  refine congrArg (fun x => form w.kd ++ (form w.rg ++ x)) ?_
  rw [body_12 h]
  rfl
theorem nums_13 {w : Wr} (h : w.kd = 19) (hf : fieldsW w = true) : I6 w.ep ∧ I6 w.ke ∧ I6 w.ki ∧ I6 w.ch := by
  rw [fields_13 h] at hf
  simp only [Bool.and_eq_true, decide_eq_true_eq] at hf
  obtain ⟨⟨h1, h2, h3⟩, h4, h4'⟩ := hf
  exact ⟨pI h1, pI h2, pI h3, ⟨by omega, by omega⟩⟩
theorem put_13 {w : Wr} (h : w.kd = 19) : msgC.put w = form w.kd ++ (form w.rg ++ (form w.ep ++ ((form w.ke ++ form w.ki) ++ form w.ch))) := by
  rw [put_msg]
  refine congrArg (fun x => form w.kd ++ (form w.rg ++ x)) ?_
  rw [body_13 h]
  rfl
theorem nums_14 {w : Wr} (h : w.kd = 20) (hf : fieldsW w = true) : I6 w.ep ∧ I6 w.ke ∧ I6 w.ki := by
  rw [fields_14 h] at hf
  simp only [Bool.and_eq_true, decide_eq_true_eq] at hf
  obtain ⟨h1, h2, h3⟩ := hf
  exact ⟨pI h1, pI h2, pI h3⟩
theorem put_14 {w : Wr} (h : w.kd = 20) : msgC.put w = form w.kd ++ (form w.rg ++ (form w.ep ++ (form w.ke ++ form w.ki))) := by
  rw [put_msg]
  refine congrArg (fun x => form w.kd ++ (form w.rg ++ x)) ?_
  rw [body_14 h]
  rfl
theorem nums_x {w : Wr} (h : w.kd = 13) (hf : fieldsW w = true) : I6 w.ep := by
  rw [fields_x h] at hf
  have h1 := hf
  exact pI h1
theorem put_x {w : Wr} (h : w.kd = 13) : msgC.put w = form w.kd ++ (form w.rg ++ form w.ep) := by
  rw [put_msg]
  refine congrArg (fun x => form w.kd ++ (form w.rg ++ x)) ?_
  rw [body_x h]
  rfl
theorem flatL_len {α : Type} {F : α → List Int} {l : List α} {c : Nat} (hf : ∀ a ∈ l, (F a).length ≤ c) : (l.flatMap F).length ≤ c * l.length := by
  induction l with
  | nil => simp
  | cons a l ih =>
    have h1 := hf a (List.mem_cons_self ..)
    have h2 := ih (fun d hd => hf d (List.mem_cons_of_mem _ hd))
    rw [List.flatMap_cons, List.length_append, List.length_cons, Nat.mul_succ]; omega
theorem form_10 {n : Int} (h : I6 n) : (form n).length ≤ 10 := by have := forms_len' [n] (i6_cons h i6_nil); rw [forms_one] at this; simpa using this
theorem txI_l40 {t : Tx} (ho : I6 t.e ∧ I6 t.i ∧ I6 t.b) (hr : ∀ n ∈ t.r, I6 n.1 ∧ I6 n.2) (hv : ∀ n ∈ t.v, I6 n) (h1 : t.r.length ≤ 1048576) (h2 : t.v.length ≤ 1048576) : L40 (txI.put t) := by
  have e1 := form_10 ho.1
  have e2 := form_10 ho.2.1
  have e3 := form_10 ho.2.2
  have e4 := form_10 (n := (t.r.length : Int)) ⟨by omega, by omega⟩
  have e5 := form_10 (n := (t.v.length : Int)) ⟨by omega, by omega⟩
  have e6 : (t.v.flatMap form).length ≤ 10 * t.v.length := flatL_len (fun n h => form_10 (hv n h))
  have e7 : (t.r.flatMap (fun x => form x.1 ++ form x.2)).length ≤ 20 * t.r.length := flatL_len (fun n h => by have q1 := form_10 (hr n h).1; have q2 := form_10 (hr n h).2; (try dsimp only); rw [List.length_append]; omega)
  show (form t.e ++ (form t.i ++ (form t.b ++ ((form (t.r.length : Int) ++ t.r.flatMap (fun x => form x.1 ++ form x.2)) ++ (form (t.v.length : Int) ++ t.v.flatMap form))))).length ≤ _
  simp only [List.length_append]
  omega
end Go.Abs

/- Plain: what is read keeps to bytes; lists read one by one. -/
set_option linter.unusedVariables false
set_option linter.unusedSimpArgs false
namespace Go.Abs
namespace Codec
variable {α β : Type}
def Kp (c : Codec α) : Prop := ∀ u : Up, u.ok → (c.get u).2.ok
theorem int_kp {lo hi : Int} : (int lo hi).Kp := fun u hu => Up.int_ok hu lo hi
theorem str_kp {m : Int} : (str m).Kp := fun u hu => (Up.str_ok hu m).1
theorem pair_kp {c : Codec α} {d : Codec β} (h : c.Kp) (g : d.Kp) : (pair c d).Kp := fun u hu => g _ (h _ hu)
theorem mapB_kp {c : Codec α} {f : α → β} {g : β → α} (h : c.Kp) : (mapB c f g).Kp := fun u hu => h _ hu
theorem rdl_kp {c : Codec α} (h : c.Kp) : ∀ (n : Nat) (u : Up), u.ok → (rdl c n u).2.ok
  | 0, u, hu => hu
  | n + 1, u, hu => by
    unfold rdl
    split
    · exact hu
    · exact rdl_kp h n _ (h u hu)
theorem list_kp {lo hi : Int} {c : Codec α} (h : c.Kp) : (list lo hi c).Kp := fun u hu => rdl_kp h _ _ (Up.int_ok hu lo hi)
theorem spoil_ok {u : Up} (hu : u.ok) (x : Int) : (u.spoil x).ok := by unfold Up.spoil; split <;> exact hu
theorem within_kp {m : Int} {put : α → List Int} {prs : List Int → α × Int} {z : α} {x : Int} {ok : α → Prop} : (within m put prs z x ok).Kp := fun u hu => by
  have h := (Up.str_ok hu m).1
  show (if (u.str m).2.e ≠ 0 then (z, (u.str m).2) else if (prs (u.str m).1).2 ≠ 0 then (z, (u.str m).2.spoil x) else ((prs (u.str m).1).1, (u.str m).2)).2.ok
  split
  · exact h
  · split
    · exact spoil_ok h x
    · exact h
theorem rdl_go {c : Codec α} {k : Nat} {u : Up} (h : u.e = 0) : rdl c (k + 1) u = ((c.get u).1 :: (rdl c k (c.get u).2).1, (rdl c k (c.get u).2).2) := by rw [rdl, if_neg (by simp [h])]
theorem rdl_stop {c : Codec α} {k : Nat} {u : Up} (h : k = 0 ∨ u.e ≠ 0) : rdl c k u = ([], u) := by
  cases k with
  | zero => rfl
  | succ k => unfold rdl; rw [if_pos (by rcases h with h | h; omega; exact h)]
theorem list_get {c : Codec α} {lo hi : Int} {u : Up} {r : Int × Up} {s : List α × Up} (h : r = (int lo hi).get u) (h2 : s = rdl c r.1.toNat r.2) : (list lo hi c).get u = s := by subst h h2; rfl
theorem int_rng0 {u : Up} {lo hi : Int} (h : 0 ≤ lo) (h2 : 0 ≤ hi) {r : Int × Up} (e : r = (int lo hi).get u) : 0 ≤ r.1 ∧ r.1 ≤ hi := by
  subst e
  show 0 ≤ (u.int lo hi).1 ∧ (u.int lo hi).1 ≤ hi
  unfold Up.int
  split
  · exact ⟨Int.le_refl _, h2⟩
  · split
    · exact ⟨Int.le_refl _, h2⟩
    · rename_i h3
      split
      · exact ⟨Int.le_refl _, h2⟩
      · rename_i h4
        have h5 : (firstP u.b).2.2 = 0 := by simpa using h4
        have h6 : ¬((firstP u.b).1 < lo ∨ (firstP u.b).1 > hi) := fun q => h3 ⟨h5, q⟩
        exact ⟨by dsimp only; omega, by dsimp only; omega⟩
end Codec
open Codec
theorem key_kp : keyC.Kp := pair_kp int_kp int_kp
theorem vec_kp : vecC.Kp := list_kp int_kp
theorem flag_kp : flagC.Kp := mapB_kp int_kp
theorem tx_kp : txC.Kp := within_kp
theorem tab_kp : tabC.Kp := within_kp
theorem ent_kp : entC.Kp := within_kp
theorem rec_kp : (pair WC WC).Kp := pair_kp int_kp int_kp
end Go.Abs

/- Plain: what is read whole is within bounds. -/
set_option linter.unusedVariables false
set_option linter.unusedSimpArgs false
namespace Go.Abs
open Codec
theorem read_in {b : List Int} (hb : Byt b) (h : (msgC.get ⟨b, 0⟩).2.close = 0) : (msgC.get ⟨b, 0⟩).1.In := by
  obtain ⟨q1, q2⟩ := parse_bwd (z := wz0) msgC_law hb (by unfold Codec.parse; rw [if_neg (not_not_intro h)])
  have q3 : (Codec.parse msgC wz0 b).1 = (msgC.get ⟨b, 0⟩).1 := by unfold Codec.parse; rw [if_neg (not_not_intro h)]
  rw [q3] at q2
  exact in_msg q2
end Go.Abs

/- Plain: what stands behind the epoch. -/
set_option linter.unusedVariables false
set_option linter.unusedSimpArgs false
namespace Go.Abs
open Codec
def restW (w : Wr) : List Int :=
  if w.kd = 14 then form w.nm ++ (form (w.tb.length : Int) ++ w.tb.flatMap tabC.put)
  else if w.kd = 15 then form w.nm ++ (form (w.vc.length : Int) ++ w.vc.flatMap form)
  else if w.kd = 17 then form (w.vc.length : Int) ++ w.vc.flatMap form
  else if w.kd = 16 then form w.pt ++ (form w.ps ++ (form (w.en.length : Int) ++ w.en.flatMap entC.put))
  else if w.kd = 18 then (form w.ke ++ form w.ki) ++ (form w.ch ++ (form (w.by_.length : Int) ++ w.by_))
  else if w.kd = 19 then (form w.ke ++ form w.ki) ++ form w.ch
  else if w.kd = 20 then form w.ke ++ form w.ki
  else []
theorem rest_8 {w : Wr} (h : w.kd = 14) : restW w = form w.nm ++ (form (w.tb.length : Int) ++ w.tb.flatMap tabC.put) := by
  unfold restW
  rw [if_pos (by omega)]
theorem rest_9 {w : Wr} (h : w.kd = 15) : restW w = form w.nm ++ (form (w.vc.length : Int) ++ w.vc.flatMap form) := by
  unfold restW
  rw [if_neg (by omega)]
  rw [if_pos (by omega)]
theorem rest_10 {w : Wr} (h : w.kd = 17) : restW w = form (w.vc.length : Int) ++ w.vc.flatMap form := by
  unfold restW
  rw [if_neg (by omega)]
  rw [if_neg (by omega)]
  rw [if_pos (by omega)]
theorem rest_11 {w : Wr} (h : w.kd = 16) : restW w = form w.pt ++ (form w.ps ++ (form (w.en.length : Int) ++ w.en.flatMap entC.put)) := by
  unfold restW
  rw [if_neg (by omega)]
  rw [if_neg (by omega)]
  rw [if_neg (by omega)]
  rw [if_pos (by omega)]
theorem rest_12 {w : Wr} (h : w.kd = 18) : restW w = (form w.ke ++ form w.ki) ++ (form w.ch ++ (form (w.by_.length : Int) ++ w.by_)) := by
  unfold restW
  rw [if_neg (by omega)]
  rw [if_neg (by omega)]
  rw [if_neg (by omega)]
  rw [if_neg (by omega)]
  rw [if_pos (by omega)]
theorem rest_13 {w : Wr} (h : w.kd = 19) : restW w = (form w.ke ++ form w.ki) ++ form w.ch := by
  unfold restW
  rw [if_neg (by omega)]
  rw [if_neg (by omega)]
  rw [if_neg (by omega)]
  rw [if_neg (by omega)]
  rw [if_neg (by omega)]
  rw [if_pos (by omega)]
theorem rest_14 {w : Wr} (h : w.kd = 20) : restW w = form w.ke ++ form w.ki := by
  unfold restW
  rw [if_neg (by omega)]
  rw [if_neg (by omega)]
  rw [if_neg (by omega)]
  rw [if_neg (by omega)]
  rw [if_neg (by omega)]
  rw [if_neg (by omega)]
  rw [if_pos (by omega)]
theorem rest_x {w : Wr} (h : w.kd = 13) : restW w = [] := by
  unfold restW
  rw [if_neg (by omega)]
  rw [if_neg (by omega)]
  rw [if_neg (by omega)]
  rw [if_neg (by omega)]
  rw [if_neg (by omega)]
  rw [if_neg (by omega)]
  rw [if_neg (by omega)]
theorem put_r {w : Wr} (h : 13 ≤ w.kd ∧ w.kd ≤ 20) : msgC.put w = form w.kd ++ (form w.rg ++ (form w.ep ++ restW w)) := by
  rcases (by omega : w.kd = 13 ∨ w.kd = 14 ∨ w.kd = 15 ∨ w.kd = 17 ∨ w.kd = 16 ∨ w.kd = 18 ∨ w.kd = 19 ∨ w.kd = 20) with k | k | k | k | k | k | k | k
  · rw [put_x k, rest_x k]; simp
  · rw [put_8 k, rest_8 k]
  · rw [put_9 k, rest_9 k]
  · rw [put_10 k, rest_10 k]
  · rw [put_11 k, rest_11 k]
  · rw [put_12 k, rest_12 k]
  · rw [put_13 k, rest_13 k]
  · rw [put_14 k, rest_14 k]
theorem ep_r {w : Wr} (h : 13 ≤ w.kd ∧ w.kd ≤ 20) (hf : fieldsW w = true) : I6 w.ep := by
  rcases (by omega : w.kd = 13 ∨ w.kd = 14 ∨ w.kd = 15 ∨ w.kd = 17 ∨ w.kd = 16 ∨ w.kd = 18 ∨ w.kd = 19 ∨ w.kd = 20) with k | k | k | k | k | k | k | k
  · have q := nums_x k hf; first | exact q | exact q.1
  · have q := nums_8 k hf; first | exact q | exact q.1
  · have q := nums_9 k hf; first | exact q | exact q.1
  · have q := nums_10 k hf; first | exact q | exact q.1
  · have q := nums_11 k hf; first | exact q | exact q.1
  · have q := nums_12 k hf; first | exact q | exact q.1
  · have q := nums_13 k hf; first | exact q | exact q.1
  · have q := nums_14 k hf; first | exact q | exact q.1
theorem kd_in {w : Wr} (h : chkW w = 0) : 1 ≤ w.kd ∧ w.kd ≤ 20 := by
  rcases Classical.em (w.kd < 1 ∨ w.kd > 20) with k | k
  · exact (kind_y h k).elim
  · omega
end Go.Abs

/- Plain: the hello message may be; its bytes; it is read back. -/
set_option linter.unusedVariables false
set_option linter.unusedSimpArgs false
namespace Go.Abs
theorem h0_in : h0.In := { h0_sz with rI := (fun n h => by cases h), eI := (fun n h => by cases h) }
theorem h0_chk : chkW h0 = 0 := by
  refine chkW_iff.2 ⟨by decide, by decide, ?_, ?_⟩
  · rw [fields_x rfl]; decide
  · have e : bareW h0 = h0 := by { rw [bare_x (by decide)]; rfl }
    rw [e, sameW_self]
theorem h0_put : msgC.put h0 = [26, 2, 6] := by
  rw [put_x rfl, ← hello_b]; simp [forms]
theorem h0_byt : bytW h0 = ([26, 2, 6], 0) := by
  have h := bytW_of h0_chk (by rw [h0_put]; decide)
  rw [h, h0_put]
theorem h0_par : parW [26, 2, 6] = (h0, 0) := by
  have h := back_fwd h0_in (by rw [h0_byt])
  rw [h0_byt] at h; exact h
end Go.Abs
