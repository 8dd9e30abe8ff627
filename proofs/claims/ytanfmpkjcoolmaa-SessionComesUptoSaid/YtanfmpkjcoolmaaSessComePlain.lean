/- Plain: rounds of what is sent again, step by step. -/
import Derived.Test.YtanfmpkjcoolmaaSessOrderPlain
set_option linter.unusedVariables false
namespace Go.Abs
open Tb
namespace Se
def ps (l : Ln) (k : Bool) : List Pq := (l.x k).again ++ [(l.x k).pk 0 []]
def seg (l : Ln) (k : Bool) (i : Nat) : Ln := all l (((ps l k).take i).map fun y => ⟨!k, y⟩)
theorem ps_len (l : Ln) (k : Bool) : (ps l k).length = (l.x k).q.length + 1 := by unfold ps; rw [List.length_append, Sq.again_len]; rfl
theorem seg_zero (l : Ln) (k : Bool) : seg l k 0 = l := rfl
theorem seg_succ {l : Ln} {k : Bool} {i : Nat} {y : Pq} (h : (ps l k)[i]? = some y) : seg l k (i + 1) = (seg l k i).takes ⟨!k, y⟩ := by
  unfold seg all
  rw [List.take_add_one, h, Option.toList_some, List.map_append, List.foldl_append]; rfl
theorem seg_end (l : Ln) (k : Bool) : seg l k (ps l k).length = flush l k := by unfold seg flush; rw [List.take_length]; rfl
theorem seg_good {B : Bool → Int} {o : List Wy} {n : Nat} {l : Ln} (hn : n ≤ 1000) (h : Inv B o l n) (k : Bool) (i : Nat) : Inv B o (seg l k i) n ∧ ∀ y ∈ ps l k, y.chk = 0 := by
  refine ⟨(all_good hn _ h (fun w hw => ?_)).1, fun y hy => (flush_good hn h k ⟨!k, y⟩ (List.mem_map.2 ⟨y, hy, rfl⟩)).chk h hn⟩
  obtain ⟨y, hy, rfl⟩ := List.mem_map.1 hw
  exact flush_good hn h k _ (List.mem_map.2 ⟨y, List.mem_of_mem_take hy, rfl⟩)
def half (l : Ln) : Nat → Ln
  | 0 => l
  | 1 => flush l false
  | _ => flush (flush l false) true
def rnd (l : Ln) : Nat → Ln
  | 0 => l
  | n + 1 => half (rnd l n) 2
theorem half_inv {B : Bool → Int} {o : List Wy} {n : Nat} {l : Ln} (hn : n ≤ 1000) (h : Inv B o l n) : ∀ k, Inv B o (half l k) n
  | 0 => h
  | 1 => (flush_inv hn h false).1
  | _ + 2 => (flush_inv hn (flush_inv hn h false).1 true).1
theorem rnd_inv {B : Bool → Int} {o : List Wy} {n : Nat} {l : Ln} (hn : n ≤ 1000) (h : Inv B o l n) : ∀ k, Inv B o (rnd l k) n
  | 0 => h
  | k + 1 => half_inv hn (rnd_inv hn h k) 2
theorem rnd_succ (l : Ln) (j : Nat) : rnd l (j + 1) = half (rnd l j) 2 := rfl
theorem rnd_two (l : Ln) : rnd l 2 = rounds l := rfl
def ansr (l : Ln) : Nat → Ln
  | 0 => l
  | 1 => l.takes ⟨true, (l.x false).pk 0 []⟩
  | _ => answers l
theorem ansr_inv {B : Bool → Int} {o : List Wy} {n : Nat} {l : Ln} (hn : n ≤ 1000) (h : Inv B o l n) : ∀ k, Inv B o (ansr l k) n
  | 0 => h
  | 1 => (takes_good h hn (good_answer (h.en false))).1
  | _ + 2 => (answers_inv hn h).1
theorem answer_chk {B : Bool → Int} {o : List Wy} {n : Nat} {l : Ln} (hn : n ≤ 1000) (h : Inv B o l n) (k : Bool) : ((l.x k).pk 0 []).chk = 0 := (good_answer (h.en k)).chk h hn
theorem comes_sent {B : Bool → Int} {o : List Wy} {n : Nat} {l : Ln} (hn : n ≤ 1000) (h : Inv B o l n) : (answers (rounds l)).sent = l.sent := by
  have h1 := flush_inv hn h false
  have h2 := flush_inv hn h1.1 true
  have h3 := flush_inv hn h2.1 false
  have h4 := flush_inv hn h3.1 true
  have h5 := answers_inv hn h4.1
  exact h5.2.2.trans (h4.2.2.trans (h3.2.2.trans (h2.2.2.trans h1.2.2)))
theorem half_one {l X : Ln} (h : half l 0 = X) : half l 1 = flush X false := by subst h; rfl
theorem half_two {l X : Ln} (h : half l 1 = X) : half l 2 = flush X true := by subst h; rfl
theorem ansr_one {l X : Ln} (h : ansr l 0 = X) : ansr l 1 = X.takes ⟨true, (X.x false).pk 0 []⟩ := by subst h; rfl
theorem ansr_two {l X : Ln} (h : ansr l 1 = X) : ansr l 2 = X.takes ⟨false, (X.x true).pk 0 []⟩ := by subst h; rfl
theorem ansr_end (l : Ln) : ansr l 2 = answers l := by unfold ansr; rfl
theorem fin_eq (l : Ln) : ansr (rnd l 2) 2 = answers (rounds l) := by rw [rnd_two, ansr_end]
theorem comes_end {B : Bool → Int} {o : List Wy} {n : Nat} {l : Ln} (hn : n ≤ 1000) (h : Inv B o l n) (k : Bool) : (ansr (rnd l 2) 2).came k = (ansr (rnd l 2) 2).sent k ∧ ((ansr (rnd l 2) 2).x k).q = [] := by rw [fin_eq]; exact all_comes hn h k
theorem comes_byt {B : Bool → Int} {o : List Wy} {n : Nat} {l : Ln} (hn : n ≤ 1000) (h : Inv B o l n) (hB : ∀ c, Byt (l.sent c)) (c : Bool) : Byt ((ansr (rnd l 2) 2).sent c) := by
  have : (ansr (rnd l 2) 2).sent = l.sent := by rw [fin_eq]; exact comes_sent hn h
  rw [this]; exact hB c
end Se
end Go.Abs
