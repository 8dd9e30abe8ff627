/- In order, none twice. -/
import Derived.Test.YtanfmpkjcoolmaaSeB
import Derived.Test.YtanfmpkjcoolmaaAbsZt
import Derived.Test.YtanfmpkjcoolmaaSessOrderPlain
set_option linter.unusedVariables false
set_option linter.unusedSimpArgs false
namespace Go.Proofs.Ytanfmpkjcoolmaa.Sf
open Go Go.Abs Go.Abs.Tb Go.Proofs.Ytanfmpkjcoolmaa.Pk Sb Sc Sd Se Go.Abs.Se
attribute [local irreducible] AWP AOps Does

theorem cf108 : CF Try.prog 108 := ⟨_, Try.func108, by kernel_rfl, by kernel_rfl⟩
theorem cf109 : CF Try.prog 109 := ⟨_, Try.func109, by kernel_rfl, by kernel_rfl⟩
theorem cf110 : CF Try.prog 110 := ⟨_, Try.func110, by kernel_rfl, by kernel_rfl⟩
theorem cf40 : CF Try.prog 40 := ⟨_, Try.func40, by kernel_rfl, by kernel_rfl⟩
theorem fd149_2 : FD Try.prog 149 2 147 13 := ⟨_, _, Try.underlying149, rfl, rfl, rfl⟩
theorem fd149_3 : FD Try.prog 149 3 147 15 := ⟨_, _, Try.underlying149, rfl, rfl, rfl⟩
theorem si149 : SI Try.prog 149 #[(0, 12), (12, 1), (13, 2), (15, 2)] (.agg #[.int .i64 0, .int .i64 0, .int .i64 0, .int .i64 0, .int .i64 0, .slice none 0 0, .int .i64 0, .int .i64 0, .int .i64 0, .int .i64 0, .int .i64 0, .slice none 0 0, .slice none 0 0, .slice none 0 0, .slice none 0 0, .slice none 0 0, .slice none 0 0]) := ⟨⟨_, Try.underlying149, fun w => by kernel_rfl⟩, by kernel_rfl⟩
theorem ti141 : TI Try.prog 141 6 true := ⟨by kernel_rfl, by kernel_rfl⟩
theorem ti147 : TI Try.prog 147 2 true := ⟨by kernel_rfl, by kernel_rfl⟩
theorem ti151 : TI Try.prog 151 4 true := ⟨by kernel_rfl, by kernel_rfl⟩
theorem ti22 : TI Try.prog 22 1 false := ⟨by kernel_rfl, by kernel_rfl⟩
theorem ti5 : TI Try.prog 5 1 false := ⟨by kernel_rfl, by kernel_rfl⟩
theorem zi141 : (Try.prog.info? 141).map (·.zero) = some (some (.agg #[.int .i64 0, .int .i64 0, .int .i64 0, .int .i64 0, .int .i64 0, .slice none 0 0])) := by kernel_rfl
theorem zi145 : (Try.prog.info? 145).map (·.zero) = some (some (.agg #[.int .i64 0, .int .i64 0, .int .i64 0, .int .i64 0, .int .i64 0, .slice none 0 0, .int .i64 0, .int .i64 0, .int .i64 0, .int .i64 0, .int .i64 0, .slice none 0 0])) := by kernel_rfl
theorem zi151 : (Try.prog.info? 151).map (·.zero) = some (some (.agg #[.int .i64 0, .bool false, .int .u16 0, .int .u8 0])) := by kernel_rfl

attribute [local irreducible] Up.int Up.str Up.close Up.rest Up.clr Up.spoil Up.w Up.flag Ss.chk Pq.chk Ss.take Ss.answer Pq.bytes Pq.parse Sq.take Sq.meet Sq.ack Sq.again Sq.send Ln.does Ln.takes
theorem does_any (l : Ln) (r : Nat → Nat) (S1 : List Ob) (hr : Rw l r S1) (hg : Gd l) (n : Nt) (hn : n.Ok) (K : D → List Ob → Prop) (hK : ∀ r S2, Rw (l.does n) r S2 → K (.tup []) (.box (lbx (l.does n) r) :: S2)) : DoesK Try.prog 110 [.bp 0 0, .agg (ntz n)] (.box (lbx l r) :: S1) K := by
  rcases n with ⟨d, w, m, v⟩
  cases w
  · exact does_0 l r S1 hr hg d m v hn K hK
  · exact does_1 l r S1 hr hg d m v hn K hK
end Go.Proofs.Ytanfmpkjcoolmaa.Sf
