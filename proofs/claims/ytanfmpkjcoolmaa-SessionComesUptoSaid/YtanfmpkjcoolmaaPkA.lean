/- The walks of package pack. -/
import Derived.Test.YtanfmpkjcoolmaaPackPlain2
import Derived.Test.YtanfmpkjcoolmaaProg
import Derived.KernelRfl
set_option linter.unusedVariables false
set_option linter.unusedSimpArgs false
namespace Go.Proofs.Ytanfmpkjcoolmaa.Pk
open Go Go.Abs
attribute [local irreducible] AWP AOps Does

theorem nrPkA0 {α : Type} {a b : α} (h : a = b := by first|simp only[nf,Nat.beq]<;>rfl|rfl) : a = b := h
theorem cf198 : CF Try.prog 198 := ⟨_, Try.func198, by kernel_rfl, by kernel_rfl⟩
theorem cf75 : CF Try.prog 75 := ⟨_, Try.func75, by kernel_rfl, by kernel_rfl⟩
theorem cf76 : CF Try.prog 76 := ⟨_, Try.func76, by kernel_rfl, by kernel_rfl⟩
theorem cf85 : CF Try.prog 85 := ⟨_, Try.func85, by kernel_rfl, by kernel_rfl⟩
theorem ei5 : EI Try.prog 5 1 1 (.int .u8 0) := EI.of (by kernel_rfl) rfl rfl
theorem ti2 : TI Try.prog 2 1 false := ⟨by kernel_rfl, by kernel_rfl⟩
theorem ti22 : TI Try.prog 22 1 false := ⟨by kernel_rfl, by kernel_rfl⟩
theorem ti4 : TI Try.prog 4 1 false := ⟨by kernel_rfl, by kernel_rfl⟩
theorem ti5 : TI Try.prog 5 1 false := ⟨by kernel_rfl, by kernel_rfl⟩
theorem zi2 : (Try.prog.info? 2).map (·.zero) = some (some (.int .i64 0)) := by kernel_rfl
theorem zi5 : (Try.prog.info? 5).map (·.zero) = some (some (.int .u8 0)) := by kernel_rfl

def I64 (n : Int) : Prop := -9223372036854775808 ≤ n ∧ n ≤ 9223372036854775807
/-- The first digits that are put. -/
def part (u s k : Nat) : List Int := (List.range (s - k)).map fun i => ((u / 128 ^ (s - i) % 128 + 128 : Nat) : Int)
theorem b_equal (a b : List Int) (ha : Byt a) (hb : Byt b) : Does Try.prog 40 [bys a, bys b] [] (vb (decide (a = b))) [] := by
  refine Does.of_body (rvs := [.tmp 4]) Try.func40 rfl rfl rfl rfl ?_
  refine AWP.seq ?_
  refine AWP.region ?_
  refine n_assign rfl nrPkA0 ?_
  refine AOps.nil ?_
  refine AWP.seq ?_
  refine AWP.region ?_
  refine n_move rfl nrPkA0 ?_
  refine n_toStr rfl Try.underlying22 Try.underlying5 Try.underlying9 nrPkA0 ?_
  refine n_move rfl nrPkA0 ?_
  refine n_toStr rfl Try.underlying22 Try.underlying5 Try.underlying9 nrPkA0 ?_
  refine n_streq rfl nrPkA0 nrPkA0 (by first | exact ha | exact hb) (by first | exact ha | exact hb) rfl ?_
  refine n_assign rfl nrPkA0 ?_
  refine AOps.nil ?_
  refine AWP.ret ?_
  refine fin_pure (.cons (rv_tmp nrPkA0) .nil) nrPkA0 ?_
  exact ren_flat rfl rfl

theorem b_clone (b : List Int) (hl : L40 b) : Does Try.prog 95 [bys b] [] (bys b) [] := by
  refine Does.of_body (rvs := [.tmp 2]) Try.func95 rfl rfl rfl rfl ?_
  refine AWP.seq ?_
  refine AWP.region ?_
  refine n_assign rfl nrPkA0 ?_
  refine AOps.nil ?_
  refine AWP.seq ?_
  refine AWP.seq ?_
  refine AWP.region ?_
  refine n_move rfl nrPkA0 ?_
  refine n_eqnil rfl Try.underlying22 nrPkA0 (fun b1 hb1 he1 => ?_)
  refine AOps.nil ?_
  refine AWP.cond nrPkA0 (fun hc2 => ?_) (fun hc2 => ?_)
  · try simp only [nh] at hc2
    have hz : ints .u8 b = [] := by first | exact he1 hc2 | (apply he1; simpa using hc2)
    refine AWP.seq ?_
    refine AWP.region ?_
    refine n_assign rfl nrPkA0 ?_
    refine AOps.nil ?_
    refine AWP.ret ?_
    refine fin_pure (.cons (rv_tmp nrPkA0) .nil) nrPkA0 ?_
    first | exact ren_ints | (show Ren No No _ (.sl none (ints .u8 b) .ro); rw [hz]; exact .ro (fun x h => by cases h))
  · try simp only [nh] at hc2
    refine AWP.skip ?_
    refine AWP.seq ?_
    refine AWP.region ?_
    refine n_lit rfl Try.underlying22 ti5 zi5 rfl rfl (Eq.trans (by simp only [nl] <;> rfl) nrPkA0) rfl nrPkA0 ?_
    refine n_move rfl nrPkA0 ?_
    first | refine n_append_own rfl Try.underlying22 Try.underlying22 ei5 nrPkA0 rfl (by first | rfl | rw [ints_length]) nrPkA0 (by first | exact ints_one _ _ | simp) (by first | exact ints_one _ _ | simp) (by first | exact ints_snoc _ _ _ | exact ints_append _ _ _ | rfl) (by simp only [ints_length, List.length_cons, List.length_nil] <;> rfl) (by omega) nrPkA0 ?_ | refine n_append_full rfl Try.underlying22 Try.underlying22 ei5 nrPkA0 nrPkA0 (by first | exact ints_one _ _ | simp) (by first | exact ints_one _ _ | simp) (by first | exact ints_snoc _ _ _ | exact ints_append _ _ _ | rfl) (by simp only [ints_length, List.length_cons, List.length_nil] <;> rfl) (by omega) rfl nrPkA0 ?_
    refine n_assign rfl nrPkA0 ?_
    refine AOps.nil ?_
    refine AWP.ret ?_
    refine fin_pure (.cons (rv_tmp nrPkA0) .nil) nrPkA0 ?_
    first | exact ren_ints | (show Ren No No _ (.sl none (ints .u8 b) .ro); rw [hz]; exact .ro (fun x h => by cases h))

theorem hiD_step {u : Nat} (h : u ≠ 0) (out : List Int) : hiD (u / 128) ++ (((u % 128 + 128 : Nat) : Int) :: out) = hiD u ++ out := by
  rw [hiD_pos h]; simp
end Go.Proofs.Ytanfmpkjcoolmaa.Pk
