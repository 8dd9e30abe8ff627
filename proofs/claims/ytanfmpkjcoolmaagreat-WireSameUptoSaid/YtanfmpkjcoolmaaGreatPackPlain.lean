/- Plain: the numbers' forms. -/
import Derived.Test.YtanfmpkjcoolmaaGreatAbsA
set_option linter.unusedVariables false
set_option linter.unusedSimpArgs false
namespace Go.Abs

/-- The natural number of a number with a sign. -/
def natN (n : Int) : Nat := if 0 ≤ n then 2 * n.toNat else 2 * (-n - 1).toNat + 1

theorem natN_lt {n : Int} (h0 : -9223372036854775808 ≤ n) (h1 : n ≤ 9223372036854775807) : natN n < 18446744073709551616 := by
  unfold natN; split <;> omega

theorem bv_xor_ones (x : Nat) (h : x < 18446744073709551616) : (BitVec.ofNat 64 x ^^^ BitVec.allOnes 64).toNat = 18446744073709551615 - x := by
  rw [BitVec.xor_allOnes, BitVec.toNat_not, BitVec.toNat_ofNat, Nat.mod_eq_of_lt h]

theorem natural_eq {n : Int} (h0 : -9223372036854775808 ≤ n) (h1 : n ≤ 9223372036854775807) :
    bitsI .xor .u64 (IntKind.u64.wrap (IntKind.u64.wrap n * 2 ^ min (Int.toNat 1) IntKind.u64.bits)) (IntKind.u64.wrap (n.fdiv (2 ^ min (Int.toNat 63) IntKind.i64.bits))) = (natN n : Int) := by
  have e1 : (2 : Int) ^ min (Int.toNat 1) IntKind.u64.bits = 2 := by decide
  have e2 : (2 : Int) ^ min (Int.toNat 63) IntKind.i64.bits = 9223372036854775808 := by decide
  have w : ∀ a : Int, IntKind.u64.wrap a = a % 18446744073709551616 := by
    intro a
    show (if (false && decide (a % 18446744073709551616 ≥ 9223372036854775808)) = true then a % 18446744073709551616 - 18446744073709551616 else a % 18446744073709551616) = _
    rw [if_neg (by simp)]
  rw [e1, e2, w, w, w]
  have hx : ∀ x y : Int, bitsI .xor .u64 x y = IntKind.u64.wrap (((BitVec.ofInt 64 x ^^^ BitVec.ofInt 64 y : BitVec 64).toNat : Nat) : Int) := fun _ _ => rfl
  rw [hx, w]
  by_cases hn : 0 ≤ n
  · have hd : n.fdiv 9223372036854775808 = 0 := by
      rw [Int.fdiv_eq_ediv_of_nonneg _ (by decide)]; omega
    have ha : (n % 18446744073709551616 * 2) % 18446744073709551616 = ((2 * n.toNat : Nat) : Int) := by omega
    rw [hd, ha]
    have hz : (0 : Int) % 18446744073709551616 = ((0 : Nat) : Int) := rfl
    rw [hz]
    rw [BitVec.ofInt_natCast, BitVec.ofInt_natCast]
    simp only [BitVec.xor_zero, BitVec.toNat_ofNat]
    unfold natN
    rw [if_pos hn]
    have : (2 * n.toNat) % 2 ^ 64 = 2 * n.toNat := Nat.mod_eq_of_lt (by omega)
    rw [this]; omega
  · have hd : n.fdiv 9223372036854775808 = -1 := by
      rw [Int.fdiv_eq_ediv_of_nonneg _ (by decide)]; omega
    have hm : (-1 : Int) % 18446744073709551616 = ((18446744073709551615 : Nat) : Int) := by decide
    have ha : (n % 18446744073709551616 * 2) % 18446744073709551616 = ((18446744073709551615 - natN n : Nat) : Int) := by
      unfold natN; rw [if_neg hn]; omega
    have hlt := natN_lt h0 h1
    rw [hd, hm, ha]
    rw [BitVec.ofInt_natCast, BitVec.ofInt_natCast]
    have ho : BitVec.ofNat 64 18446744073709551615 = BitVec.allOnes 64 := by decide
    rw [ho, bv_xor_ones _ (by omega)]
    omega

/-- The digits to the base 128 but the last one, with 128 added; the highest first. -/
def hiD (v : Nat) : List Int := if h : v = 0 then [] else hiD (v / 128) ++ [((v % 128 + 128 : Nat) : Int)]
termination_by v
decreasing_by omega
def formN (u : Nat) : List Int := hiD (u / 128) ++ [((u % 128 : Nat) : Int)]
def form (n : Int) : List Int := formN (natN n)
def forms (l : List Int) : List Int := l.flatMap form

def sizeN (u : Nat) : Nat := if h : u < 128 then 1 else sizeN (u / 128) + 1
termination_by u
decreasing_by omega

theorem sizeN_small {u : Nat} (h : u < 128) : sizeN u = 1 := by rw [sizeN, dif_pos h]
theorem sizeN_big {u : Nat} (h : 128 ≤ u) : sizeN u = sizeN (u / 128) + 1 := by rw [sizeN, dif_neg (by omega)]
theorem hiD_zero : hiD 0 = [] := by rw [hiD]; rfl
theorem hiD_pos {v : Nat} (h : v ≠ 0) : hiD v = hiD (v / 128) ++ [((v % 128 + 128 : Nat) : Int)] := by rw [hiD, dif_neg h]
theorem hiD_length : ∀ (u : Nat), (hiD (u / 128)).length + 1 = sizeN u := by
  intro u
  induction u using Nat.strongRecOn with
  | _ u ih =>
    by_cases h : u < 128
    · rw [sizeN_small h, Nat.div_eq_of_lt h, hiD_zero]; rfl
    · rw [sizeN_big (by omega), hiD_pos (by omega), List.length_append, ← ih (u / 128) (by omega)]; rfl
theorem formN_length (u : Nat) : (formN u).length = sizeN u := by unfold formN; rw [List.length_append, ← hiD_length]; rfl
theorem sizeN_pos (u : Nat) : 1 ≤ sizeN u := by rw [sizeN]; split <;> omega
theorem sizeN_le : ∀ (k u : Nat), u < 128 ^ k → 1 ≤ k → sizeN u ≤ k := by
  intro k
  induction k with
  | zero => intro u _ h; omega
  | succ k ih =>
    intro u hu _
    by_cases h : u < 128
    · rw [sizeN_small h]; omega
    · rw [sizeN_big (by omega)]
      have : 1 ≤ k := by
        rcases Nat.eq_zero_or_pos k with h0 | h0
        · subst h0; simp at hu; omega
        · exact h0
      have := ih (u / 128) (by rw [Nat.pow_succ] at hu; omega) this
      omega
theorem sizeN_le10 {u : Nat} (h : u < 18446744073709551616) : sizeN u ≤ 10 := sizeN_le 10 u (by omega) (by omega)

/-- The digits from the k-th one down to the first: what the loop puts. -/
theorem hiD_take : ∀ (s u : Nat), sizeN u = s + 1 → hiD (u / 128) = (List.range s).map fun i => ((u / 128 ^ (s - i) % 128 + 128 : Nat) : Int) := by
  intro s
  induction s with
  | zero =>
    intro u h
    by_cases hu : u < 128
    · rw [Nat.div_eq_of_lt hu, hiD_zero]; rfl
    · rw [sizeN_big (by omega)] at h
      have := sizeN_pos (u / 128); omega
  | succ s ih =>
    intro u h
    have hu : 128 ≤ u := by
      rcases Nat.lt_or_ge u 128 with h' | h'
      · rw [sizeN_small h'] at h; omega
      · exact h'
    rw [sizeN_big hu] at h
    rw [hiD_pos (by omega), ih (u / 128) (by omega), List.range_succ, List.map_append]
    congr 1
    · apply List.map_congr_left
      intro i hi
      have hi := List.mem_range.1 hi
      rw [Nat.div_div_eq_div_mul, show s + 1 - i = (s - i) + 1 by omega, Nat.pow_succ, Nat.mul_comm 128]
    · simp

/-! ### Bits -/
theorem wrap_u64 (a : Int) : IntKind.u64.wrap a = a % 18446744073709551616 := by
  show (if (false && decide (a % 18446744073709551616 ≥ 9223372036854775808)) = true then a % 18446744073709551616 - 18446744073709551616 else a % 18446744073709551616) = _
  rw [if_neg (by simp)]
theorem wrap_u8 (a : Int) : IntKind.u8.wrap a = a % 256 := by
  show (if (false && decide (a % 256 ≥ 128)) = true then a % 256 - 256 else a % 256) = _
  rw [if_neg (by simp)]
theorem or128 (x : Nat) (h : x < 256) : bitsI .or .u8 (x : Int) 128 = ((x % 128 + 128 : Nat) : Int) := by
  have e : bitsI .or .u8 (x : Int) 128 = IntKind.u8.wrap (((BitVec.ofInt 8 (x : Int) ||| BitVec.ofInt 8 128 : BitVec 8).toNat : Nat) : Int) := rfl
  rw [e, wrap_u8, BitVec.ofInt_natCast]
  have key : ∀ y : _root_.Fin 256, ((BitVec.ofNat 8 y.1 ||| BitVec.ofInt 8 128 : BitVec 8).toNat) = y.1 % 128 + 128 := by decide +kernel
  rw [key ⟨x, h⟩]
  simp only
  omega
theorem and127 (x : Nat) (h : x < 256) : bitsI .and .u8 (x : Int) 127 = ((x % 128 : Nat) : Int) := by
  have e : bitsI .and .u8 (x : Int) 127 = IntKind.u8.wrap (((BitVec.ofInt 8 (x : Int) &&& BitVec.ofInt 8 127 : BitVec 8).toNat : Nat) : Int) := rfl
  rw [e, wrap_u8, BitVec.ofInt_natCast]
  have key : ∀ y : _root_.Fin 256, ((BitVec.ofNat 8 y.1 &&& BitVec.ofInt 8 127 : BitVec 8).toNat) = y.1 % 128 := by decide +kernel
  rw [key ⟨x, h⟩]
  simp only
  omega
theorem shrN (u k : Nat) (hk : k ≤ 9) : Int.fdiv (u : Int) (2 ^ min (Int.toNat (7 * (k : Int))) IntKind.u64.bits) = ((u / 128 ^ k : Nat) : Int) := by
  have e : (7 * (k : Int)).toNat = 7 * k := by omega
  have e2 : min (7 * k) IntKind.u64.bits = 7 * k := by show min (7 * k) 64 = 7 * k; omega
  rw [e, e2, show (2 : Int) ^ (7 * k) = ((128 ^ k : Nat) : Int) by rw [Int.pow_mul]; norm_cast]
  rw [Int.fdiv_eq_ediv_of_nonneg _ (Int.natCast_nonneg _)]
  rfl
/-- What the loop of Int puts. -/
theorem digit_hi (u k : Nat) (hk : k ≤ 9) : bitsI .or .u8 (IntKind.u8.wrap (Int.fdiv (u : Int) (2 ^ min (Int.toNat (7 * (k : Int))) IntKind.u64.bits))) 128 = ((u / 128 ^ k % 128 + 128 : Nat) : Int) := by
  rw [shrN u k hk, wrap_u8]
  rw [show ((u / 128 ^ k : Nat) : Int) % 256 = ((u / 128 ^ k % 256 : Nat) : Int) by omega]
  rw [or128 _ (by omega)]
  congr 2
  omega
theorem digit_lo (u : Nat) : bitsI .and .u8 (IntKind.u8.wrap (u : Int)) 127 = ((u % 128 : Nat) : Int) := by
  rw [wrap_u8, show (u : Int) % 256 = ((u % 256 : Nat) : Int) by omega, and127 _ (by omega)]
  congr 1
  omega

/-! ### The first number of bytes -/
def numberN (u : Nat) : Int := if u % 2 = 0 then ((u / 2 : Nat) : Int) else -((u / 2 : Nat) : Int) - 1
def firstG (u i : Nat) : List Int → Int × Nat × Int
  | [] => (0, 0, 10)
  | c :: r => if (i = 0 ∧ c = 128) ∨ u > 144115188075855871 then (0, 0, 11) else if c < 128 then (numberN (u * 128 + (c % 128).toNat), i + 1, 0) else firstG (u * 128 + (c % 128).toNat) (i + 1) r
def firstP (b : List Int) : Int × Nat × Int := firstG 0 0 b
def Byt (b : List Int) : Prop := ∀ x ∈ b, 0 ≤ x ∧ x ≤ 255
theorem Byt.at {b : List Int} (h : Byt b) {i : Nat} (hi : i < b.length) : 0 ≤ b.getD i 0 ∧ b.getD i 0 ≤ 255 := by
  rw [List.getD_eq_getElem?_getD, List.getElem?_eq_getElem hi]
  exact h _ (List.getElem_mem hi)
theorem drop_at {b : List Int} {i : Nat} (hi : i < b.length) : b.drop i = b.getD i 0 :: b.drop (i + 1) := by
  rw [List.drop_eq_getElem_cons hi, List.getD_eq_getElem?_getD, List.getElem?_eq_getElem hi]; rfl
theorem shl7or (u : Nat) (c : Int) (hu : u ≤ 144115188075855871) (h0 : 0 ≤ c) (h1 : c ≤ 255) :
    bitsI .or .u64 (IntKind.u64.wrap ((u : Int) * 2 ^ min (Int.toNat 7) IntKind.u64.bits)) (bitsI .and .u8 c 127) = ((u * 128 + (c % 128).toNat : Nat) : Int) := by
  obtain ⟨x, rfl⟩ := Int.eq_ofNat_of_zero_le h0
  rw [and127 x (by omega), show (2 : Int) ^ min (Int.toNat 7) IntKind.u64.bits = 128 by decide, wrap_u64]
  rw [show (u : Int) * 128 % 18446744073709551616 = ((u * 128 : Nat) : Int) by omega]
  have e : ∀ a b : Nat, bitsI .or .u64 (a : Int) (b : Int) = IntKind.u64.wrap (((BitVec.ofInt 64 (a : Int) ||| BitVec.ofInt 64 (b : Int) : BitVec 64).toNat : Nat) : Int) := fun _ _ => rfl
  rw [e, wrap_u64, BitVec.ofInt_natCast, BitVec.ofInt_natCast, BitVec.toNat_or, BitVec.toNat_ofNat, BitVec.toNat_ofNat]
  rw [Nat.mod_eq_of_lt (by omega), Nat.mod_eq_of_lt (by omega)]
  have hor : u * 128 ||| x % 128 = u * 128 + x % 128 := by
    rw [show u * 128 = 2 ^ 7 * u by omega]
    rw [← Nat.two_pow_add_eq_or_of_lt (by omega : x % 128 < 2 ^ 7)]
  rw [hor]
  have : ((x : Int) % 128).toNat = x % 128 := by omega
  rw [this]
  omega
theorem bitsI_conv_u8 (c : Int) (h0 : 0 ≤ c) (h1 : c ≤ 255) : 0 ≤ bitsI .and .u8 c 127 ∧ bitsI .and .u8 c 127 ≤ 127 := by
  obtain ⟨x, rfl⟩ := Int.eq_ofNat_of_zero_le h0
  rw [and127 x (by omega)]; omega
theorem signed_eq (u : Nat) (h : u < 18446744073709551616) :
    bitsI .xor .i64 (IntKind.i64.wrap (Int.fdiv (u : Int) (2 ^ min (Int.toNat 1) IntKind.u64.bits))) (IntKind.i64.wrap (0 - IntKind.i64.wrap (bitsI .and .u64 (u : Int) 1))) = numberN u := by
  have e1 : (2 : Int) ^ min (Int.toNat 1) IntKind.u64.bits = 2 := by decide
  rw [e1, Int.fdiv_eq_ediv_of_nonneg _ (by decide), show (u : Int) / 2 = ((u / 2 : Nat) : Int) by omega]
  rw [wrap_id (k := .i64) (a := ((u / 2 : Nat) : Int)) (by simp only [loK]; omega) (by simp only [hiK]; omega)]
  have ea : bitsI .and .u64 (u : Int) 1 = ((u % 2 : Nat) : Int) := by
    have e : bitsI .and .u64 (u : Int) 1 = IntKind.u64.wrap (((BitVec.ofInt 64 (u : Int) &&& BitVec.ofInt 64 1 : BitVec 64).toNat : Nat) : Int) := rfl
    rw [e, wrap_u64, BitVec.ofInt_natCast, BitVec.toNat_and, BitVec.toNat_ofNat, Nat.mod_eq_of_lt h]
    have : (BitVec.ofInt 64 1).toNat = 1 := by decide
    rw [this, Nat.and_one_is_mod]; omega
  rw [ea, wrap_id (k := .i64) (a := ((u % 2 : Nat) : Int)) (by simp only [loK]; omega) (by simp only [hiK]; omega)]
  rw [wrap_id (k := .i64) (a := 0 - ((u % 2 : Nat) : Int)) (by simp only [loK]; omega) (by simp only [hiK]; omega)]
  have ex : ∀ x y : Int, bitsI .xor .i64 x y = IntKind.i64.wrap (((BitVec.ofInt 64 x ^^^ BitVec.ofInt 64 y : BitVec 64).toNat : Nat) : Int) := fun _ _ => rfl
  unfold numberN
  rcases Nat.mod_two_eq_zero_or_one u with h0 | h0
  · rw [ex, h0, if_pos rfl, show (0 : Int) - ((0 : Nat) : Int) = ((0 : Nat) : Int) by rfl, BitVec.ofInt_natCast, BitVec.ofInt_natCast]
    simp only [BitVec.xor_zero, BitVec.toNat_ofNat]
    rw [Nat.mod_eq_of_lt (by omega), wrap_id (by simp only [loK]; omega) (by simp only [hiK]; omega)]
  · rw [ex, h0, if_neg (by decide), BitVec.ofInt_natCast, show BitVec.ofInt 64 (0 - ((1 : Nat) : Int)) = BitVec.allOnes 64 by decide, bv_xor_ones _ (by omega)]
    have hw : ∀ a : Int, IntKind.i64.wrap a = if a % 18446744073709551616 ≥ 9223372036854775808 then a % 18446744073709551616 - 18446744073709551616 else a % 18446744073709551616 := by
      intro a
      show (if (true && decide (a % 18446744073709551616 ≥ 9223372036854775808)) = true then _ else _) = _
      simp only [Bool.true_and, decide_eq_true_eq]
      rfl
    rw [hw, if_pos (by omega)]
    omega
theorem numberN_bd (u : Nat) (h : u < 18446744073709551616) : -9223372036854775808 ≤ numberN u ∧ numberN u ≤ 9223372036854775807 := by
  unfold numberN; split <;> omega
end Go.Abs
