/- Plain: what comes over a line that loses. -/
import Derived.Test.YtanfmpkjcoolmaaMirrorPlain
import Derived.Test.YtanfmpkjcoolmaaAbsZb
set_option linter.unusedVariables false
namespace Go.Abs
def valid (l : List En) : List En := l.filter fun x => x.chk == 0
theorem valid_take_yes {l : List En} {i : Nat} {x : En} (hx : l[i]? = some x) (h : x.chk = 0) : valid (l.take (i + 1)) = valid (l.take i) ++ [x] := by
  obtain ⟨hi, rfl⟩ := List.getElem?_eq_some_iff.1 hx
  rw [List.take_succ_eq_append_getElem hi]; simp [valid, List.filter_append, h, -List.take_append_getElem]
theorem valid_take_no {l : List En} {i : Nat} {x : En} (hx : l[i]? = some x) (h : x.chk ≠ 0) : valid (l.take (i + 1)) = valid (l.take i) := by
  obtain ⟨hi, rfl⟩ := List.getElem?_eq_some_iff.1 hx
  rw [List.take_succ_eq_append_getElem hi]; simp [valid, List.filter_append, h, -List.take_append_getElem]
theorem valid_len (l : List En) : (valid l).length ≤ l.length := List.length_filter_le _ _
theorem valid_ok {l : List En} : ∀ x ∈ valid l, x.chk = 0 := fun x hx => by simpa using (List.mem_filter.1 hx).2
def mny (L n : Nat) : Nat := min (L - n) 8
abbrev st4 (L g n : Nat) : Sd := ⟨L, L, g, n⟩
theorem st4_chk {L g n : Nat} (h1 : g ≤ n) (h2 : n ≤ L) (h3 : L ≤ 1048576) : (st4 L g n).chk = 0 := by
  unfold Sd.chk; rw [if_neg]; simp only; omega
theorem st4_next {L g n : Nat} (h1 : g ≤ n) (h2 : n ≤ L) (h3 : L ≤ 1048576) : (st4 L g n).next = ((n : Int), (mny L n : Int), st4 L g (n + mny L n)) := by
  have hm : (st4 L g n).many = (mny L n : Int) := by unfold Sd.many mny; simp only; split <;> omega
  unfold Sd.next; rw [if_pos (st4_chk h1 h2 h3), hm]; simp
theorem st4_back {L g n : Nat} (h1 : g ≤ n) (h2 : n ≤ L) (h3 : L ≤ 1048576) : (st4 L g n).back = st4 L g g := by
  unfold Sd.back; rw [if_pos (st4_chk h1 h2 h3)]
theorem st4_acked {L g n u : Nat} (h1 : g ≤ n) (h2 : n ≤ L) (h3 : L ≤ 1048576) (hu : g ≤ u) (hun : u ≤ n) : (st4 L g n).acked u = st4 L u n := by
  unfold Sd.acked
  split
  · simp only; rw [if_neg (by omega)]
  · rename_i h
    have hk := st4_chk h1 h2 h3
    have : u = g := by
      by_cases e : u = g
      · exact e
      · exact absurd ⟨hk, by simp only; omega, by simp only; omega⟩ h
    rw [this]
theorem st4_grown {L : Nat} (h : L ≤ 1048576) : (⟨0, 0, 0, 0⟩ : Sd).grown L L = st4 L 0 0 := by
  unfold Sd.grown; rw [if_pos]; · rfl
  refine ⟨by simp [Sd.chk], ?_⟩; simp only; omega
/-- How many rounds without loss are left at most. -/
def phi (L g n : Nat) : Nat := if n = g then L - g else L - n + 1 + (L - g)
/-- In time. -/
def InTime (K L i g n : Nat) : Prop := i ≤ K ∨ phi L g n + i ≤ K + 2 * L + 1 ∨ phi L g n = 0
theorem inTime_lost {K L i g' n' : Nat} (h : i < K) : InTime K L (i + 1) g' n' := .inl (by omega)
theorem phi_le {L g n : Nat} (h1 : g ≤ n) (h2 : n ≤ L) : phi L g n ≤ 2 * L + 1 := by unfold phi; split <;> omega
theorem inTime_step {K L i g n g' n' : Nat} (h1 : g ≤ n) (h2 : n ≤ L) (h : InTime K L i g n) (hp : phi L g' n' + 1 ≤ phi L g n ∨ phi L g' n' = 0) : InTime K L (i + 1) g' n' := by
  have := phi_le h1 h2
  unfold InTime at *
  omega
theorem phi_back {L g : Nat} (h : g ≤ L) : phi L g g + 1 ≤ phi L g L ∨ phi L g g = 0 := by unfold phi; split <;> (try split) <;> omega
theorem phi_take {L g m : Nat} (h : g + m ≤ L) (hm : 1 ≤ m) : phi L (g + m) (g + m) + 1 ≤ phi L g g ∨ phi L (g + m) (g + m) = 0 := by unfold phi; simp; omega
theorem phi_skip {L g n m : Nat} (h1 : g < n) (h : n + m ≤ L) (hm : 1 ≤ m) : phi L g (n + m) + 1 ≤ phi L g n ∨ phi L g (n + m) = 0 := by unfold phi; rw [if_neg (by omega), if_neg (by omega)]; omega
theorem inTime_end {K L g n : Nat} (h1 : g ≤ n) (h2 : n ≤ L) (h : InTime K L (K + 2 * L + 2) g n) : g = L ∧ n = L := by
  unfold InTime phi at h
  split at h <;> omega
theorem part_len' {V : List En} {n : Nat} (h : n ≤ V.length) : ((V.take (n + mny V.length n)).drop n).length = mny V.length n := by
  rw [List.length_drop, List.length_take]; unfold mny; omega
theorem acc_part {V : List En} (hV : ∀ x ∈ V, x.chk = 0) {g n : Nat} (hg : g ≤ V.length) (hn : n < V.length) (hL : V.length ≤ 1048576) (hgn : g ≤ n) {r : List En × Int} (hr : r = accept g 0 n ((V.take (n + mny V.length n)).drop n)) :
    (r.2 = 0 → n = g ∧ r.1 = (V.take (n + mny V.length n)).drop n) ∧ (r.2 ≠ 0 → g < n) := by
  have hl := part_len' (V := V) (n := n) (by omega)
  have hm : 1 ≤ mny V.length n ∧ mny V.length n ≤ 8 := by unfold mny; omega
  have hc : chkB 0 n ((V.take (n + mny V.length n)).drop n) = 0 := by
    unfold chkB
    rw [if_neg (by rw [hl]; omega), if_neg]
    simp only [List.any_eq_true, not_exists, not_and]
    intro x hx
    have := hV x (List.mem_of_mem_take (List.mem_of_mem_drop hx))
    simp [this]
  subst hr
  unfold accept
  rw [if_neg (by simp [hc]), if_neg (by omega)]
  split
  · rename_i h; exact ⟨fun h' => by simp at h', fun _ => by omega⟩
  · rename_i h
    rw [if_neg (by omega)]
    exact ⟨fun _ => ⟨by omega, rfl⟩, fun h' => absurd rfl h'⟩
theorem take_mny {V : List En} {n : Nat} (h : n ≤ V.length) : V.take n ++ (V.take (n + mny V.length n)).drop n = V.take (n + mny V.length n) := by
  have := List.take_append_drop n (V.take (n + mny V.length n))
  rwa [List.take_take, Nat.min_eq_left (by omega)] at this
theorem mny_le {L n : Nat} (h : n ≤ L) : n + mny L n ≤ L := by unfold mny; omega
theorem mny_pos {L n : Nat} (h : n < L) : 1 ≤ mny L n := by unfold mny; omega
theorem mny_zero {L n : Nat} (h : n ≤ L) (hz : mny L n = 0) : n = L := by unfold mny at hz; omega
end Go.Abs
