/- Plain: what is read out of bytes. -/
import Derived.Test.YtanfmpkjcoolmaaGreatPackPlain
import Derived.Test.YtanfmpkjcoolmaaGreatAbsN
set_option linter.unusedVariables false
set_option linter.unusedSimpArgs false
namespace Go.Abs
/-- The length of all bytes that are taken. -/
abbrev L40 (b : List Int) : Prop := b.length ≤ 1099511627776
abbrev bys (b : List Int) : D := .sl none (ints .u8 b) .ro
abbrev vi (n : Int) : D := .val (.int .i64 n)
abbrev vb (b : Bool) : D := .val (.bool b)
structure Up where
  b : List Int
  e : Int
/-- The box of an Unpacker; of the reference's. -/
abbrev Up.z (u : Up) : List D := [bys u.b, vi u.e, vb true]
abbrev Up.rz (u : Up) : List D := [bys u.b, vi u.e]
abbrev Up.ok (u : Up) : Prop := Byt u.b ∧ L40 u.b
/-- The reference keeps no bytes behind an error. -/
def Up.clr (u : Up) : Up := if u.e = 0 then u else ⟨[], u.e⟩
def Up.spoil (u : Up) (x : Int) : Up := if u.e = 0 then ⟨u.b, x⟩ else u
def Up.int (u : Up) (lo hi : Int) : Int × Up :=
  if u.e ≠ 0 then (0, u)
  else if (firstP u.b).2.2 = 0 ∧ ((firstP u.b).1 < lo ∨ (firstP u.b).1 > hi) then (0, ⟨u.b, 11⟩)
  else if (firstP u.b).2.2 ≠ 0 then (0, ⟨u.b, (firstP u.b).2.2⟩)
  else ((firstP u.b).1, ⟨u.b.drop (firstP u.b).2.1, 0⟩)
def Up.str (u : Up) (most : Int) : List Int × Up :=
  if (u.int 0 (max 0 most)).2.e ≠ 0 then ([], (u.int 0 (max 0 most)).2)
  else if (u.int 0 (max 0 most)).1 > (u.int 0 (max 0 most)).2.b.length then ([], ⟨(u.int 0 (max 0 most)).2.b, 10⟩)
  else ((u.int 0 (max 0 most)).2.b.take (u.int 0 (max 0 most)).1.toNat, ⟨(u.int 0 (max 0 most)).2.b.drop (u.int 0 (max 0 most)).1.toNat, 0⟩)
def Up.rest (u : Up) : Int := if u.e = 0 then u.b.length else 0
def Up.close (u : Up) : Int := if u.e ≠ 0 then u.e else if u.b.length > 0 then 12 else 0

theorem firstG_cons (u i : Nat) (c : Int) (r : List Int) : firstG u i (c :: r) = if (i = 0 ∧ c = 128) ∨ u > 144115188075855871 then (0, 0, 11) else if c < 128 then (numberN (u * 128 + (c % 128).toNat), i + 1, 0) else firstG (u * 128 + (c % 128).toNat) (i + 1) r := by rw [firstG]
theorem firstG_bd : ∀ (r : List Int) (u i : Nat), (firstG u i r).2.2 = 0 → i + 1 ≤ (firstG u i r).2.1 ∧ (firstG u i r).2.1 ≤ i + r.length
  | [], u, i, h => by simp [firstG] at h
  | c :: r, u, i, h => by
    rw [firstG_cons] at h ⊢
    split at h
    · simp at h
    · rename_i h1
      rw [if_neg h1]
      split at h
      · rename_i h2; rw [if_pos h2]; simp
      · rename_i h2
        rw [if_neg h2]
        have := firstG_bd r _ _ h
        simp only [List.length_cons]
        omega
theorem firstG_err : ∀ (r : List Int) (u i : Nat), (firstG u i r).2.2 ≠ 0 → (firstG u i r).1 = 0 ∧ (firstG u i r).2.1 = 0
  | [], u, i, h => by simp [firstG]
  | c :: r, u, i, h => by
    rw [firstG_cons] at h ⊢
    split at h
    · rename_i h1; rw [if_pos h1]; simp
    · rename_i h1
      rw [if_neg h1]
      split at h
      · simp at h
      · rename_i h2; rw [if_neg h2]; exact firstG_err r _ _ h
theorem firstP_bd {b : List Int} (h : (firstP b).2.2 = 0) : 1 ≤ (firstP b).2.1 ∧ (firstP b).2.1 ≤ b.length := by
  have := firstG_bd b 0 0 h
  unfold firstP; omega
theorem firstG_num : ∀ (r : List Int) (u i : Nat), Byt r → u < 18446744073709551616 → -9223372036854775808 ≤ (firstG u i r).1 ∧ (firstG u i r).1 ≤ 9223372036854775807
  | [], u, i, _, _ => by simp [firstG]
  | c :: r, u, i, hb, hu => by
    have hc := hb c (by simp)
    rw [firstG_cons]
    split
    · simp
    · rename_i h1
      have hu2 : u * 128 + (c % 128).toNat < 18446744073709551616 := by omega
      split
      · exact numberN_bd _ hu2
      · exact firstG_num r _ _ (fun x hx => hb x (by simp [hx])) hu2
theorem firstP_num {b : List Int} (h : Byt b) : -9223372036854775808 ≤ (firstP b).1 ∧ (firstP b).1 ≤ 9223372036854775807 := firstG_num b 0 0 h (by omega)
theorem Byt.drop {b : List Int} (h : Byt b) (n : Nat) : Byt (b.drop n) := fun x hx => h x (List.mem_of_mem_drop hx)
theorem Byt.take {b : List Int} (h : Byt b) (n : Nat) : Byt (b.take n) := fun x hx => h x (List.mem_of_mem_take hx)
theorem Up.ok.drop {b : List Int} {e e' : Int} {n : Nat} (h : Up.ok ⟨b, e⟩) : Up.ok ⟨b.drop n, e'⟩ := ⟨h.1.drop n, by have := h.2; simp only [L40, List.length_drop] at *; omega⟩
theorem ren_lits {ρ σ : Nat → Nat → Prop} {nl : Option Bool} {k : IntKind} {l : List Int} {xs : List (List D)} {c : Cap} (h : xs = ints k l) : Ren ρ σ (.sl nl xs c) (.sl none (ints k l) .ro) := by subst h; exact ren_ints
/-- One thing that is asked. -/
structure Ak1 where
  d : Int
  lo : Int
  hi : Int
  n : Int
  e : Int
abbrev Ak1.z (a : Ak1) : List D := [vi a.d, vi a.lo, vi a.hi, vi a.n, vi a.e]
def Up.ask (u : Up) (a : Ak1) : Up := if a.d = 0 then (u.int a.lo a.hi).2 else if a.d = 1 then (u.str a.n).2 else if a.d = 2 then (u.int 0 1).2 else u.spoil a.e
theorem hiD_byt : ∀ (v : Nat), Byt (hiD v) := by
  intro v
  induction v using Nat.strongRecOn with
  | _ v ih =>
    by_cases h : v = 0
    · subst h; rw [hiD_zero]; intro x hx; cases hx
    · rw [hiD_pos h]
      intro x hx
      rcases List.mem_append.1 hx with hx | hx
      · exact ih (v / 128) (by omega) x hx
      · simp only [List.mem_cons, List.not_mem_nil, or_false] at hx
        subst hx; omega
theorem Byt.append {a b : List Int} (h : Byt a) (k : Byt b) : Byt (a ++ b) := fun x hx => by
  rcases List.mem_append.1 hx with hx | hx
  · exact h x hx
  · exact k x hx
theorem form_byt (n : Int) : Byt (form n) := (hiD_byt _).append fun x hx => by
  simp only [List.mem_cons, List.not_mem_nil, or_false] at hx
  subst hx; omega
theorem forms_byt : ∀ (l : List Int), Byt (forms l)
  | [] => fun x hx => by simp [forms] at hx
  | n :: l => by
    have : forms (n :: l) = form n ++ forms l := by simp [forms]
    rw [this]
    exact (form_byt n).append (forms_byt l)
theorem firstG_hiD : ∀ (v : Nat) (t : List Int), v < 144115188075855872 → firstG 0 0 (hiD v ++ t) = firstG v (hiD v).length t := by
  intro v
  induction v using Nat.strongRecOn with
  | _ v ih =>
    intro t hv
    by_cases h : v = 0
    · subst h; rw [hiD_zero]; rfl
    · rw [hiD_pos h, List.append_assoc, ih (v / 128) (by omega) _ (by omega)]
      simp only [List.cons_append, List.nil_append, List.length_append, List.length_cons, List.length_nil]
      rw [firstG_cons]
      have hi : ¬ (((hiD (v / 128)).length = 0 ∧ ((v % 128 + 128 : Nat) : Int) = 128) ∨ v / 128 > 144115188075855871) := by
        rintro (⟨h1, h2⟩ | h1)
        · have h3 : v / 128 = 0 := by
            by_cases h4 : v / 128 = 0
            · exact h4
            · rw [hiD_pos h4, List.length_append] at h1; simp at h1
          omega
        · omega
      rw [if_neg hi, if_neg (by omega)]
      congr 1
      omega
theorem numberN_natN {n : Int} (h0 : -9223372036854775808 ≤ n) (h1 : n ≤ 9223372036854775807) : numberN (natN n) = n := by
  unfold numberN natN
  split <;> split <;> omega
theorem firstP_form {n : Int} (h0 : -9223372036854775808 ≤ n) (h1 : n ≤ 9223372036854775807) (r : List Int) : firstP (form n ++ r) = (n, (form n).length, 0) := by
  have hN := natN_lt h0 h1
  unfold firstP form formN
  rw [List.append_assoc, firstG_hiD _ _ (by omega)]
  simp only [List.cons_append, List.nil_append, List.length_append, List.length_cons, List.length_nil]
  rw [firstG_cons, if_neg (by omega), if_pos (by omega)]
  have : natN n / 128 * 128 + ((((natN n % 128 : Nat) : Int) % 128)).toNat = natN n := by omega
  rw [this, numberN_natN h0 h1]
theorem Up.int_form {n lo hi : Int} (h0 : -9223372036854775808 ≤ n) (h1 : n ≤ 9223372036854775807) (hl : lo ≤ n) (hh : n ≤ hi) (r : List Int) : Up.int ⟨form n ++ r, 0⟩ lo hi = (n, ⟨r, 0⟩) := by
  have e := firstP_form h0 h1 r
  unfold Up.int
  rw [e]
  simp only
  rw [if_neg (by simp), if_neg (by simp; omega), if_neg (by simp)]
  simp
theorem Up.str_form {x : List Int} (hx : x.length ≤ 1099511627776) {m : Int} (hm : (x.length : Int) ≤ m) (r : List Int) : Up.str ⟨form (x.length : Int) ++ (x ++ r), 0⟩ m = (x, ⟨r, 0⟩) := by
  have e := Up.int_form (n := (x.length : Int)) (lo := 0) (hi := max 0 m) (by omega) (by omega) (by omega) (by omega) (x ++ r)
  unfold Up.str
  rw [e]
  simp only
  rw [if_neg (by simp), if_neg (by simp; omega)]
  simp
theorem renU {ρ σ : Nat → Nat → Prop} {nl : Option Bool} {c : Cap} {b b' : List Int} {e e' : Int} (h1 : b = b') (h2 : e = e') : RenAll ρ σ [.sl nl (ints .u8 b) c, vi e, vb true] (Up.z ⟨b', e'⟩) := by
  subst h1 h2
  exact .cons ren_ints (.cons (.lf (.val _)) (.cons (.lf (.val _)) .nil))
section
variable {P : Program} {N : Nat} {ops : Array Oper} {l : List Oper} {Q : Exit → Tm → List Ob → Prop} {tm : Tm} {S : List Ob} {t : Tmp} {ty : TypeId} {pos : String} {after : Array Edge}
theorem Rep.toRo {g : G} {w : World} {v : Value} {nl : Option Bool} {xs : List (List D)} {c : Cap} (r : Rep g w v (.sl nl xs c)) : Rep g w v (.sl none xs .ro) := Rep.ro_ r (fun _ _ => rfl)
end
end Go.Abs
