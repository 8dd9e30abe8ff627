/- Plain: events are read as they were written. -/
import Derived.Test.YtanfmpkjcoolmaaEventPlain2
import Derived.Test.YtanfmpkjcoolmaaPackPlain4
set_option linter.unusedVariables false
namespace Go.Abs
theorem Up.takes_len : ∀ (k : Nat) (u : Up), (Up.takes k u).1.length ≤ k
  | 0, u => Nat.le_refl _
  | k + 1, u => by
    rw [Up.takes]
    split
    · simp
    · have := Up.takes_len k u.take.2
      simp; omega
theorem Ev.parse_len (b : List Int) : (Ev.parse b).1.length ≤ 4096 := by
  unfold Ev.parse
  have h := Up.int_range (u := ⟨b, 0⟩) (lo := 0) (hi := 4096) (by omega) (by omega)
  split
  · simp
  · have := Up.takes_len (Up.int ⟨b, 0⟩ 0 4096).1.toNat (Up.int ⟨b, 0⟩ 0 4096).2
    simp only; omega
theorem Up.take_form {x : Ev} (h : x.chk = 0) (ho : x.okV) (r : List Int) : Up.take ⟨forms x.nums ++ r, 0⟩ = (x, ⟨r, 0⟩) := by
  obtain ⟨c, k, v, i⟩ := x
  obtain ⟨hk, hv, hi⟩ := ho
  unfold Up.take
  rcases Ev.chk_zero h with ⟨h1, h2⟩ | ⟨h1, h2, h3, h4, h5⟩
  · simp only at h1 h2 hk hv
    subst h1 h2
    have e : forms (Ev.nums ⟨1, k, v, 0⟩) ++ r = form 1 ++ (form k ++ (form v ++ r)) := by simp [Ev.nums, forms]
    rw [e, Up.int_form (by omega) (by omega) (by omega) (by omega)]
    simp only [Up.w_form hk.1 hk.2, Up.w_form hv.1 hv.2]
    rfl
  · simp only at h1 h2 h3 h4 h5
    subst h1 h2 h3
    have e : forms (Ev.nums ⟨2, 0, 0, i⟩) ++ r = form 2 ++ (form i ++ r) := by simp [Ev.nums, forms]
    rw [e, Up.int_form (by omega) (by omega) (by omega) (by omega)]
    simp only [Up.int_form (n := i) (lo := 1) (hi := 9007199254740992) (by omega) (by omega) h4 h5]
    rfl
theorem Up.takes_form : ∀ (l : List Ev) (r : List Int), (∀ x ∈ l, x.chk = 0) → (∀ x ∈ l, x.okV) → Up.takes l.length ⟨Ev.all l ++ r, 0⟩ = (l, ⟨r, 0⟩)
  | [], r, _, _ => rfl
  | x :: l, r, h, ho => by
    have e : Ev.all (x :: l) ++ r = forms x.nums ++ (Ev.all l ++ r) := by simp [Ev.all]
    rw [List.length_cons, Up.takes_go rfl, e, Up.take_form (h x (by simp)) (ho x (by simp))]
    simp only [Up.takes_form l r (fun y hy => h y (by simp [hy])) (fun y hy => ho y (by simp [hy]))]
theorem Ev.bytes_ok {l : List Ev} (h : (Ev.bytes l).2 = 0) : (∀ x ∈ l, x.chk = 0) ∧ l.length ≤ 4096 ∧ (Ev.bytes l).1 = form (l.length : Int) ++ Ev.all l := by
  unfold Ev.bytes at h ⊢
  split at h
  · simp at h
  · rename_i h1
    rw [if_neg h1]
    split at h
    · simp at h
    · rename_i h2
      rw [if_neg h2]
      refine ⟨fun x hx => ?_, by omega, by rw [forms_one]⟩
      simp at h1
      exact h1 x hx
theorem Ev.parse_bytes {l : List Ev} (ho : ∀ x ∈ l, x.okV) (h : (Ev.bytes l).2 = 0) : Ev.parse (Ev.bytes l).1 = (l, 0) := by
  obtain ⟨h1, h2, h3⟩ := Ev.bytes_ok h
  rw [h3]
  unfold Ev.parse
  rw [Up.int_form (by omega) (by omega) (by omega) (by omega)]
  have := Up.takes_form l [] h1 ho
  rw [List.append_nil] at this
  simp only [Int.toNat_natCast, this]
  rw [if_neg (by simp [Up.close])]
theorem Ev.rparse_bytes {k v : Int} (hk : I64' k) (hv : I64' v) : Ev.rparse (forms [k, v]) = ((k, v), 0) := by
  have e : forms [k, v] = form k ++ (form v ++ []) := by simp [forms]
  unfold Ev.rparse
  rw [e, Up.w_form hk.1 hk.2]
  simp only [Up.w_form hv.1 hv.2]
  rw [if_neg (by simp [Up.close])]
theorem Up.take_inv {u : Up} (hu : u.ok) (h : u.take.2.e = 0) : u.e = 0 ∧ u.take.1.chk = 0 ∧ u.take.1.okV ∧ u.b = forms u.take.1.nums ++ u.take.2.b := by
  have ok1 := Up.int_ok hu 1 2
  unfold Up.take at h ⊢
  split at h
  · rename_i h1
    simp only [if_pos h1]
    simp only at h
    rw [if_neg (by simp [h])]
    obtain ⟨e1, e2, e3, e4⟩ := Up.int_inv ok1.1 h
    obtain ⟨f1, f2, f3, f4⟩ := Up.int_inv hu.1 e1
    refine ⟨f1, ?_, ⟨⟨by simp, by simp⟩, ⟨by simp, by simp⟩, ⟨by simp only; omega, by simp only; omega⟩⟩, ?_⟩
    · rw [h1]; unfold Ev.chk; simp [e3, e4]
    · rw [h1] at f2 ⊢
      simp only [Ev.nums, if_true]
      rw [forms_cons, forms_one, List.append_assoc, ← e2]
      exact f2
  · rename_i h1
    simp only [if_neg h1]
    simp only at h
    rw [if_neg (by simp [h])]
    have ok2 := Up.w_ok ok1
    obtain ⟨d1, d2⟩ := Up.w_inv ok2.1 h
    obtain ⟨e1, e2⟩ := Up.w_inv ok1.1 d1
    obtain ⟨f1, f2, f3, f4⟩ := Up.int_inv hu.1 e1
    have hc : (u.int 1 2).1 = 1 := by omega
    refine ⟨f1, ?_, ⟨Up.w_i64 ok1, Up.w_i64 ok2, ⟨by simp, by simp⟩⟩, ?_⟩
    · rw [hc]; unfold Ev.chk; simp
    · rw [hc] at f2 ⊢
      simp only [Ev.nums]
      rw [if_neg (by omega), forms_cons, forms_cons, forms_one, List.append_assoc, List.append_assoc, ← d2, ← e2]
      exact f2
theorem Up.takes_inv : ∀ (k : Nat) (u : Up), u.ok → (Up.takes k u).2.e = 0 → u.e = 0 ∧ (Up.takes k u).1.length = k ∧ (∀ x ∈ (Up.takes k u).1, x.chk = 0) ∧ (∀ x ∈ (Up.takes k u).1, x.okV) ∧ u.b = Ev.all (Up.takes k u).1 ++ (Up.takes k u).2.b
  | 0, u, hu, h => ⟨h, rfl, by simp [Up.takes], by simp [Up.takes], rfl⟩
  | k + 1, u, hu, h => by
    by_cases he : u.e = 0
    · rw [Up.takes_go he] at h ⊢
      simp only at h ⊢
      obtain ⟨a1, a2, a3, a4, a5⟩ := Up.takes_inv k u.take.2 (Up.take_ok hu) h
      obtain ⟨b1, b2, b3, b4⟩ := Up.take_inv hu a1
      refine ⟨he, by simp [a2], ?_, ?_, ?_⟩
      · intro x hx; rcases List.mem_cons.1 hx with rfl | hx
        · exact b2
        · exact a3 x hx
      · intro x hx; rcases List.mem_cons.1 hx with rfl | hx
        · exact b3
        · exact a4 x hx
      · rw [b4, a5]; simp [Ev.all]
    · rw [Up.takes_stop (.inr he)] at h; exact absurd h he
theorem Ev.bytes_parse {b : List Int} (hu : Up.ok ⟨b, 0⟩) (h : (Ev.parse b).2 = 0) : (∀ x ∈ (Ev.parse b).1, x.okV) ∧ Ev.bytes (Ev.parse b).1 = (b, 0) := by
  have hr := Up.int_range (u := ⟨b, 0⟩) (lo := 0) (hi := 4096) (by omega) (by omega)
  unfold Ev.parse at h ⊢
  split at h
  · rename_i h1; exact absurd h h1
  · rename_i h1
    rw [if_neg h1]
    have hc : (Up.takes (Up.int ⟨b, 0⟩ 0 4096).1.toNat (Up.int ⟨b, 0⟩ 0 4096).2).2.close = 0 := by simpa using h1
    obtain ⟨c1, c2⟩ := Up.close_zero hc
    obtain ⟨a1, a2, a3, a4, a5⟩ := Up.takes_inv _ _ (Up.int_ok hu 0 4096) c1
    obtain ⟨b1, b2, b3, b4⟩ := Up.int_inv hu.1 a1
    refine ⟨a4, ?_⟩
    simp only
    unfold Ev.bytes
    rw [if_neg (by simp; exact a3), if_neg (by omega), forms_one, a2]
    congr 1
    rw [c2, List.append_nil] at a5
    rw [← a5, show (((Up.int ⟨b, 0⟩ 0 4096).1.toNat : Nat) : Int) = (Up.int ⟨b, 0⟩ 0 4096).1 by omega]
    exact b2.symm
end Go.Abs
