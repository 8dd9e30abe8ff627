/- A record put behind a log. -/
import Derived.Test.YtanfmpkjcoolmaaOlA
import Derived.Test.YtanfmpkjcoolmaaAbsZp
set_option linter.unusedVariables false
set_option linter.unusedSimpArgs false
namespace Go.Proofs.Ytanfmpkjcoolmaa.Mm
open Go Go.Abs Go.Abs.Tb Of Og Oh Ol
attribute [local irreducible] AWP AOps Does

theorem cf160 : CF Try.prog 160 := ⟨_, Try.func160, by kernel_rfl, by kernel_rfl⟩
theorem cf223 : CF Try.prog 223 := ⟨_, Try.func223, by kernel_rfl, by kernel_rfl⟩
theorem cf244 : CF Try.prog 244 := ⟨_, Try.func244, by kernel_rfl, by kernel_rfl⟩
theorem cf245 : CF Try.prog 245 := ⟨_, Try.func245, by kernel_rfl, by kernel_rfl⟩
theorem ei224 : EI Try.prog 224 3 24 (.agg #[.int .i64 0, .int .i64 0, .int .i64 0]) := EI.of (by kernel_rfl) rfl rfl
theorem fd217_0 : FD Try.prog 217 0 215 0 := ⟨_, _, Try.underlying217, rfl, rfl, rfl⟩
theorem fd217_1 : FD Try.prog 217 1 213 2 := ⟨_, _, Try.underlying217, rfl, rfl, rfl⟩
theorem fd217_2 : FD Try.prog 217 2 3 6 := ⟨_, _, Try.underlying217, rfl, rfl, rfl⟩
theorem fd217_3 : FD Try.prog 217 3 2 7 := ⟨_, _, Try.underlying217, rfl, rfl, rfl⟩
theorem fd217_4 : FD Try.prog 217 4 4 8 := ⟨_, _, Try.underlying217, rfl, rfl, rfl⟩
theorem fd217_5 : FD Try.prog 217 5 3 9 := ⟨_, _, Try.underlying217, rfl, rfl, rfl⟩
theorem fd217_6 : FD Try.prog 217 6 4 10 := ⟨_, _, Try.underlying217, rfl, rfl, rfl⟩
theorem fd219_0 : FD Try.prog 219 0 3 0 := ⟨_, _, Try.underlying219, rfl, rfl, rfl⟩
theorem fd219_1 : FD Try.prog 219 1 3 1 := ⟨_, _, Try.underlying219, rfl, rfl, rfl⟩
theorem fd224_1 : FD Try.prog 224 1 2 1 := ⟨_, _, Try.underlying224, rfl, rfl, rfl⟩
theorem fd224_2 : FD Try.prog 224 2 3 2 := ⟨_, _, Try.underlying224, rfl, rfl, rfl⟩
theorem si224 : SI Try.prog 224 #[(0, 1), (1, 1), (2, 1)] (.agg #[.int .i64 0, .int .i64 0, .int .i64 0]) := ⟨⟨_, Try.underlying224, fun w => by kernel_rfl⟩, by kernel_rfl⟩
theorem ti188 : TI Try.prog 188 2 true := ⟨by kernel_rfl, by kernel_rfl⟩
theorem ti2 : TI Try.prog 2 1 false := ⟨by kernel_rfl, by kernel_rfl⟩
theorem ti213 : TI Try.prog 213 4 true := ⟨by kernel_rfl, by kernel_rfl⟩
theorem ti214 : TI Try.prog 214 1 false := ⟨by kernel_rfl, by kernel_rfl⟩
theorem ti215 : TI Try.prog 215 2 true := ⟨by kernel_rfl, by kernel_rfl⟩
theorem ti224 : TI Try.prog 224 3 true := ⟨by kernel_rfl, by kernel_rfl⟩
theorem ti3 : TI Try.prog 3 1 false := ⟨by kernel_rfl, by kernel_rfl⟩
theorem ti4 : TI Try.prog 4 1 false := ⟨by kernel_rfl, by kernel_rfl⟩
theorem zi188 : (Try.prog.info? 188).map (·.zero) = some (some (.agg #[.slice none 0 0, .int .i64 0])) := by kernel_rfl
theorem zi224 : (Try.prog.info? 224).map (·.zero) = some (some (.agg #[.int .i64 0, .int .i64 0, .int .i64 0])) := by kernel_rfl

attribute [local irreducible] Tb.good Tb.may Tb.addT Tb.addE Tb.cutT Tb.cutE Tb.new
set_option maxHeartbeats 2000000 in
theorem put_0own (d : D) (U T T' : Tb) (ow ep : Int) (jo : Bool) (nx : Int) (f : Option Bool) (L : List Et) (x : Et) (S1 : List Ob) (i : Nat) (hr : S1[i]? = some (.row L.length 3)) (K : D → List Ob → Prop) (hL : L.length ≤ 1000) (hadd : Does Try.prog 223 [tz T, vi x.e, vi x.r, vi (0 + (L.length : Int))] [] (.tup [tz T', vi 0]) []) (hK : ∀ S2 j, Kept S1 S2 (.own (i + 1)) j (L.length + 1) → K (.tup []) (Ob.box (wzz (.sl none ((L ++ [x]).map etz) (.own (j + 1))) d T' U ow ep jo nx) :: S2)) : DoesK Try.prog 244 [.bp 0 0, vi 0, .agg (etz x)] (Ob.box (wzz (.sl f (L.map etz) (.own (i + 1))) d T U ow ep jo nx) :: S1) K := by
  refine DoesK.of_body (rvs := []) Try.func244 rfl rfl rfl rfl ?_
  refine AWP.seq ?_
  refine AWP.region ?_
  refine n_box rfl (by first | (simp only [nf, nfS, Nat.beq] <;> rfl) | rfl) rfl rfl (by first | (simp only [nf, nfS, Nat.beq] <;> rfl) | rfl) (by first | (simp only [nf, nfS, Nat.beq] <;> rfl) | rfl) ?_
  refine AOps.nil ?_
  refine AWP.seq ?_
  refine AWP.anyT [24, 25] (fun p => match p with | [false, false] => Ob.box (wzz (.sl f (L.map etz) (.own (i + 1))) d T U ow ep jo nx) :: (S1 ++ [Ob.box (etz x)]) | [true, false] => Ob.box (wzz (.sl f (L.map etz) (.own (i + 1))) d T U ow ep jo nx) :: (S1 ++ [Ob.box (etz x), .box [.sl (some true) [] .full, vi 0]]) | [true, true] => Ob.box (wzz (.sl f (L.map etz) (.own (i + 1))) d T U ow ep jo nx) :: (S1 ++ [Ob.box (etz x), Ob.box [.sl none (T'.l.map spz) .ro, vi T'.n]]) | _ => []) (by kernel_rfl) (by kernel_rfl) rfl rfl ?_
  refine Walk.cases [([false, false], Ob.box (wzz (.sl f (L.map etz) (.own (i + 1))) d T U ow ep jo nx) :: (S1 ++ [Ob.box (etz x)]), Ob.box (wzz (.sl f (L.map etz) (.own (i + 1))) d T U ow ep jo nx) :: (S1 ++ [Ob.box (etz x)])), ([true, false], Ob.box (wzz (.sl f (L.map etz) (.own (i + 1))) d T U ow ep jo nx) :: (S1 ++ [Ob.box (etz x), .box [.sl (some true) [] .full, vi 0]]), Ob.box (wzz (.sl f (L.map etz) (.own (i + 1))) d T U ow ep jo nx) :: (S1 ++ [Ob.box (etz x), .box [.sl (some true) [] .full, vi 0]]))] (by rfl) (by kernel_rfl) (rs := [0]) (by rfl) (by first | (simp only [nf, nfS, Nat.beq] <;> rfl) | rfl) (fun base => ⟨
      ⟨rfl, rfl, by
        refine n_move rfl (by first | (simp only [nf, nfS, Nat.beq] <;> rfl) | rfl) ?_
        exact AOps.nil ⟨rfl, rfl, rfl⟩⟩,
      ⟨rfl, rfl, by
        refine n_move rfl (by first | (simp only [nf, nfS, Nat.beq] <;> rfl) | rfl) ?_
        exact AOps.nil ⟨rfl, rfl, rfl⟩⟩,
      trivial⟩) ?_
  refine Walk.cases [([false, false], Ob.box (wzz (.sl f (L.map etz) (.own (i + 1))) d T U ow ep jo nx) :: (S1 ++ [Ob.box (etz x)]), Ob.box (wzz (.sl f (L.map etz) (.own (i + 1))) d T U ow ep jo nx) :: (S1 ++ [Ob.box (etz x)])), ([true, false], Ob.box (wzz (.sl f (L.map etz) (.own (i + 1))) d T U ow ep jo nx) :: (S1 ++ [Ob.box (etz x), .box [.sl (some true) [] .full, vi 0]]), Ob.box (wzz (.sl f (L.map etz) (.own (i + 1))) d T U ow ep jo nx) :: (S1 ++ [Ob.box (etz x), .box [.sl (some true) [] .full, vi 0]]))] (by rfl) (by kernel_rfl) (rs := [1]) (by rfl) (by first | (simp only [nf, nfS, Nat.beq] <;> rfl) | rfl) (fun base => ⟨
      ⟨rfl, rfl, by
        refine n_move rfl (by first | (simp only [nf, nfS, Nat.beq] <;> rfl) | rfl) ?_
        exact AOps.nil ⟨rfl, rfl, rfl⟩⟩,
      ⟨rfl, rfl, by
        refine n_move rfl (by first | (simp only [nf, nfS, Nat.beq] <;> rfl) | rfl) ?_
        exact AOps.nil ⟨rfl, rfl, rfl⟩⟩,
      trivial⟩) ?_
  refine Walk.cases [([false, false], Ob.box (wzz (.sl f (L.map etz) (.own (i + 1))) d T U ow ep jo nx) :: (S1 ++ [Ob.box (etz x)]), Ob.box (wzz (.sl f (L.map etz) (.own (i + 1))) d T U ow ep jo nx) :: (S1 ++ [Ob.box (etz x)])), ([true, false], Ob.box (wzz (.sl f (L.map etz) (.own (i + 1))) d T U ow ep jo nx) :: (S1 ++ [Ob.box (etz x), .box [.sl (some true) [] .full, vi 0]]), Ob.box (wzz (.sl f (L.map etz) (.own (i + 1))) d T U ow ep jo nx) :: (S1 ++ [Ob.box (etz x), .box [.sl (some true) [] .full, vi 0]]))] (by rfl) (by kernel_rfl) (rs := [9]) (by rfl) (by first | (simp only [nf, nfS, Nat.beq] <;> rfl) | rfl) (fun base => ⟨
      ⟨rfl, rfl, by
        refine n_nilCheck rfl (by first | (simp only [nf, nfS, Nat.beq] <;> rfl) | rfl) rfl ?_
        exact AOps.nil ⟨rfl, rfl, rfl⟩⟩,
      ⟨rfl, rfl, by
        refine n_nilCheck rfl (by first | (simp only [nf, nfS, Nat.beq] <;> rfl) | rfl) rfl ?_
        exact AOps.nil ⟨rfl, rfl, rfl⟩⟩,
      trivial⟩) ?_
  refine Walk.cases [([false, false], Ob.box (wzz (.sl f (L.map etz) (.own (i + 1))) d T U ow ep jo nx) :: (S1 ++ [Ob.box (etz x)]), Ob.box (wzz (.sl f (L.map etz) (.own (i + 1))) d T U ow ep jo nx) :: (S1 ++ [Ob.box (etz x)])), ([true, false], Ob.box (wzz (.sl f (L.map etz) (.own (i + 1))) d T U ow ep jo nx) :: (S1 ++ [Ob.box (etz x), .box [.sl (some true) [] .full, vi 0]]), Ob.box (wzz (.sl f (L.map etz) (.own (i + 1))) d T U ow ep jo nx) :: (S1 ++ [Ob.box (etz x), .box [.sl (some true) [] .full, vi 0]]))] (by rfl) (by kernel_rfl) (rs := [11]) (by rfl) (by first | (simp only [nf, nfS, Nat.beq] <;> rfl) | rfl) (fun base => ⟨
      ⟨rfl, rfl, by
        refine n_fieldAddr rfl fd217_1 ti213 rfl (by first | (simp only [nf, nfS, Nat.beq] <;> rfl) | rfl) rfl (by first | (simp only [nf, nfS, Nat.beq] <;> rfl) | rfl) ?_
        exact AOps.nil ⟨rfl, rfl, rfl⟩⟩,
      ⟨rfl, rfl, by
        refine n_fieldAddr rfl fd217_1 ti213 rfl (by first | (simp only [nf, nfS, Nat.beq] <;> rfl) | rfl) rfl (by first | (simp only [nf, nfS, Nat.beq] <;> rfl) | rfl) ?_
        exact AOps.nil ⟨rfl, rfl, rfl⟩⟩,
      trivial⟩) ?_
  refine Walk.cases [([false, false], Ob.box (wzz (.sl f (L.map etz) (.own (i + 1))) d T U ow ep jo nx) :: (S1 ++ [Ob.box (etz x)]), Ob.box (wzz (.sl f (L.map etz) (.own (i + 1))) d T U ow ep jo nx) :: (S1 ++ [Ob.box (etz x)])), ([true, false], Ob.box (wzz (.sl f (L.map etz) (.own (i + 1))) d T U ow ep jo nx) :: (S1 ++ [Ob.box (etz x), .box [.sl (some true) [] .full, vi 0]]), Ob.box (wzz (.sl f (L.map etz) (.own (i + 1))) d T U ow ep jo nx) :: (S1 ++ [Ob.box (etz x), .box [.sl (some true) [] .full, vi 0]]))] (by rfl) (by kernel_rfl) (rs := [12, 10]) (by rfl) (by first | (simp only [nf, nfS, Nat.beq] <;> rfl) | rfl) (fun base => ⟨
      ⟨rfl, rfl, by
        refine n_arrAddr (q := 2) rfl Try.underlying213 ti188 (by first | (simp only [nf, nfS, Nat.beq] <;> rfl) | rfl) (by first | (simp only [nf, nfS, Nat.beq] <;> rfl) | rfl) (by decide) (by decide) rfl ?_
        exact AOps.nil ⟨rfl, rfl, rfl⟩⟩,
      ⟨rfl, rfl, by
        refine n_arrAddr (q := 2) rfl Try.underlying213 ti188 (by first | (simp only [nf, nfS, Nat.beq] <;> rfl) | rfl) (by first | (simp only [nf, nfS, Nat.beq] <;> rfl) | rfl) (by decide) (by decide) rfl ?_
        exact AOps.nil ⟨rfl, rfl, rfl⟩⟩,
      trivial⟩) ?_
  refine Walk.cases [([false, false], Ob.box (wzz (.sl f (L.map etz) (.own (i + 1))) d T U ow ep jo nx) :: (S1 ++ [Ob.box (etz x)]), Ob.box (wzz (.sl f (L.map etz) (.own (i + 1))) d T U ow ep jo nx) :: (S1 ++ [Ob.box (etz x)])), ([true, false], Ob.box (wzz (.sl f (L.map etz) (.own (i + 1))) d T U ow ep jo nx) :: (S1 ++ [Ob.box (etz x), .box [.sl (some true) [] .full, vi 0]]), Ob.box (wzz (.sl f (L.map etz) (.own (i + 1))) d T U ow ep jo nx) :: (S1 ++ [Ob.box (etz x), .box [.sl (some true) [] .full, vi 0]]))] (by rfl) (by kernel_rfl) (rs := [13]) (by rfl) (by first | (simp only [nf, nfS, Nat.beq] <;> rfl) | rfl) (fun base => ⟨
      ⟨rfl, rfl, by
        refine n_load rfl ti188 (by first | (simp only [nf, nfS, Nat.beq] <;> rfl) | rfl) (by first | (simp only [nf, nfS, Nat.beq] <;> rfl) | rfl) rfl (by first | (simp only [nf, nfS, Nat.beq] <;> rfl) | rfl) ?_
        exact AOps.nil ⟨rfl, rfl, rfl⟩⟩,
      ⟨rfl, rfl, by
        refine n_load rfl ti188 (by first | (simp only [nf, nfS, Nat.beq] <;> rfl) | rfl) (by first | (simp only [nf, nfS, Nat.beq] <;> rfl) | rfl) rfl (by first | (simp only [nf, nfS, Nat.beq] <;> rfl) | rfl) ?_
        exact AOps.nil ⟨rfl, rfl, rfl⟩⟩,
      trivial⟩) ?_
  refine Walk.cases [([false, false], Ob.box (wzz (.sl f (L.map etz) (.own (i + 1))) d T U ow ep jo nx) :: (S1 ++ [Ob.box (etz x)]), Ob.box (wzz (.sl f (L.map etz) (.own (i + 1))) d T U ow ep jo nx) :: (S1 ++ [Ob.box (etz x)])), ([true, false], Ob.box (wzz (.sl f (L.map etz) (.own (i + 1))) d T U ow ep jo nx) :: (S1 ++ [Ob.box (etz x), .box [.sl (some true) [] .full, vi 0]]), Ob.box (wzz (.sl f (L.map etz) (.own (i + 1))) d T U ow ep jo nx) :: (S1 ++ [Ob.box (etz x), .box [.sl (some true) [] .full, vi 0]]))] (by rfl) (by kernel_rfl) (rs := [5]) (by rfl) (by first | (simp only [nf, nfS, Nat.beq] <;> rfl) | rfl) (fun base => ⟨
      ⟨rfl, rfl, by
        refine n_fieldAddr rfl fd224_1 ti2 rfl (by first | (simp only [nf, nfS, Nat.beq] <;> rfl) | rfl) rfl (by first | (simp only [nf, nfS, Nat.beq] <;> rfl) | rfl) ?_
        exact AOps.nil ⟨rfl, rfl, rfl⟩⟩,
      ⟨rfl, rfl, by
        refine n_fieldAddr rfl fd224_1 ti2 rfl (by first | (simp only [nf, nfS, Nat.beq] <;> rfl) | rfl) rfl (by first | (simp only [nf, nfS, Nat.beq] <;> rfl) | rfl) ?_
        exact AOps.nil ⟨rfl, rfl, rfl⟩⟩,
      trivial⟩) ?_
  refine Walk.cases [([false, false], Ob.box (wzz (.sl f (L.map etz) (.own (i + 1))) d T U ow ep jo nx) :: (S1 ++ [Ob.box (etz x)]), Ob.box (wzz (.sl f (L.map etz) (.own (i + 1))) d T U ow ep jo nx) :: (S1 ++ [Ob.box (etz x)])), ([true, false], Ob.box (wzz (.sl f (L.map etz) (.own (i + 1))) d T U ow ep jo nx) :: (S1 ++ [Ob.box (etz x), .box [.sl (some true) [] .full, vi 0]]), Ob.box (wzz (.sl f (L.map etz) (.own (i + 1))) d T U ow ep jo nx) :: (S1 ++ [Ob.box (etz x), .box [.sl (some true) [] .full, vi 0]]))] (by rfl) (by kernel_rfl) (rs := [15]) (by rfl) (by first | (simp only [nf, nfS, Nat.beq] <;> rfl) | rfl) (fun base => ⟨
      ⟨rfl, rfl, by
        refine n_load rfl ti2 (by first | (simp only [nf, nfS, Nat.beq] <;> rfl) | rfl) (by first | (simp only [nf, nfS, Nat.beq] <;> rfl) | rfl) rfl (by first | (simp only [nf, nfS, Nat.beq] <;> rfl) | rfl) ?_
        exact AOps.nil ⟨rfl, rfl, rfl⟩⟩,
      ⟨rfl, rfl, by
        refine n_load rfl ti2 (by first | (simp only [nf, nfS, Nat.beq] <;> rfl) | rfl) (by first | (simp only [nf, nfS, Nat.beq] <;> rfl) | rfl) rfl (by first | (simp only [nf, nfS, Nat.beq] <;> rfl) | rfl) ?_
        exact AOps.nil ⟨rfl, rfl, rfl⟩⟩,
      trivial⟩) ?_
  refine Walk.cases [([false, false], Ob.box (wzz (.sl f (L.map etz) (.own (i + 1))) d T U ow ep jo nx) :: (S1 ++ [Ob.box (etz x)]), Ob.box (wzz (.sl f (L.map etz) (.own (i + 1))) d T U ow ep jo nx) :: (S1 ++ [Ob.box (etz x)])), ([true, false], Ob.box (wzz (.sl f (L.map etz) (.own (i + 1))) d T U ow ep jo nx) :: (S1 ++ [Ob.box (etz x), .box [.sl (some true) [] .full, vi 0]]), Ob.box (wzz (.sl f (L.map etz) (.own (i + 1))) d T U ow ep jo nx) :: (S1 ++ [Ob.box (etz x), .box [.sl (some true) [] .full, vi 0]]))] (by rfl) (by kernel_rfl) (rs := [5]) (by rfl) (by first | (simp only [nf, nfS, Nat.beq] <;> rfl) | rfl) (fun base => ⟨
      ⟨rfl, rfl, by
        refine n_fieldAddr rfl fd224_2 ti3 rfl (by first | (simp only [nf, nfS, Nat.beq] <;> rfl) | rfl) rfl (by first | (simp only [nf, nfS, Nat.beq] <;> rfl) | rfl) ?_
        exact AOps.nil ⟨rfl, rfl, rfl⟩⟩,
      ⟨rfl, rfl, by
        refine n_fieldAddr rfl fd224_2 ti3 rfl (by first | (simp only [nf, nfS, Nat.beq] <;> rfl) | rfl) rfl (by first | (simp only [nf, nfS, Nat.beq] <;> rfl) | rfl) ?_
        exact AOps.nil ⟨rfl, rfl, rfl⟩⟩,
      trivial⟩) ?_
  refine Walk.cases [([false, false], Ob.box (wzz (.sl f (L.map etz) (.own (i + 1))) d T U ow ep jo nx) :: (S1 ++ [Ob.box (etz x)]), Ob.box (wzz (.sl f (L.map etz) (.own (i + 1))) d T U ow ep jo nx) :: (S1 ++ [Ob.box (etz x)])), ([true, false], Ob.box (wzz (.sl f (L.map etz) (.own (i + 1))) d T U ow ep jo nx) :: (S1 ++ [Ob.box (etz x), .box [.sl (some true) [] .full, vi 0]]), Ob.box (wzz (.sl f (L.map etz) (.own (i + 1))) d T U ow ep jo nx) :: (S1 ++ [Ob.box (etz x), .box [.sl (some true) [] .full, vi 0]]))] (by rfl) (by kernel_rfl) (rs := [17]) (by rfl) (by first | (simp only [nf, nfS, Nat.beq] <;> rfl) | rfl) (fun base => ⟨
      ⟨rfl, rfl, by
        refine n_load rfl ti3 (by first | (simp only [nf, nfS, Nat.beq] <;> rfl) | rfl) (by first | (simp only [nf, nfS, Nat.beq] <;> rfl) | rfl) rfl (by first | (simp only [nf, nfS, Nat.beq] <;> rfl) | rfl) ?_
        exact AOps.nil ⟨rfl, rfl, rfl⟩⟩,
      ⟨rfl, rfl, by
        refine n_load rfl ti3 (by first | (simp only [nf, nfS, Nat.beq] <;> rfl) | rfl) (by first | (simp only [nf, nfS, Nat.beq] <;> rfl) | rfl) rfl (by first | (simp only [nf, nfS, Nat.beq] <;> rfl) | rfl) ?_
        exact AOps.nil ⟨rfl, rfl, rfl⟩⟩,
      trivial⟩) ?_
  refine Walk.cases [([false, false], Ob.box (wzz (.sl f (L.map etz) (.own (i + 1))) d T U ow ep jo nx) :: (S1 ++ [Ob.box (etz x)]), Ob.box (wzz (.sl f (L.map etz) (.own (i + 1))) d T U ow ep jo nx) :: (S1 ++ [Ob.box (etz x)])), ([true, false], Ob.box (wzz (.sl f (L.map etz) (.own (i + 1))) d T U ow ep jo nx) :: (S1 ++ [Ob.box (etz x), .box [.sl (some true) [] .full, vi 0]]), Ob.box (wzz (.sl f (L.map etz) (.own (i + 1))) d T U ow ep jo nx) :: (S1 ++ [Ob.box (etz x), .box [.sl (some true) [] .full, vi 0]]))] (by rfl) (by kernel_rfl) (rs := [1]) (by rfl) (by first | (simp only [nf, nfS, Nat.beq] <;> rfl) | rfl) (fun base => ⟨
      ⟨rfl, rfl, by
        refine n_move rfl (by first | (simp only [nf, nfS, Nat.beq] <;> rfl) | rfl) ?_
        exact AOps.nil ⟨rfl, rfl, rfl⟩⟩,
      ⟨rfl, rfl, by
        refine n_move rfl (by first | (simp only [nf, nfS, Nat.beq] <;> rfl) | rfl) ?_
        exact AOps.nil ⟨rfl, rfl, rfl⟩⟩,
      trivial⟩) ?_
  refine Walk.cases [([false, false], Ob.box (wzz (.sl f (L.map etz) (.own (i + 1))) d T U ow ep jo nx) :: (S1 ++ [Ob.box (etz x)]), Ob.box (wzz (.sl f (L.map etz) (.own (i + 1))) d T U ow ep jo nx) :: (S1 ++ [Ob.box (etz x)])), ([true, false], Ob.box (wzz (.sl f (L.map etz) (.own (i + 1))) d T U ow ep jo nx) :: (S1 ++ [Ob.box (etz x), .box [.sl (some true) [] .full, vi 0]]), Ob.box (wzz (.sl f (L.map etz) (.own (i + 1))) d T U ow ep jo nx) :: (S1 ++ [Ob.box (etz x), .box [.sl (some true) [] .full, vi 0]]))] (by rfl) (by kernel_rfl) (rs := [19]) (by rfl) (by first | (simp only [nf, nfS, Nat.beq] <;> rfl) | rfl) (fun base => ⟨
      ⟨rfl, rfl, by
        refine n_imul (c := 0) rfl (by first | (simp only [nf, nfS, Nat.beq] <;> rfl) | rfl) (by first | (simp only [nf, nfS, Nat.beq] <;> rfl) | rfl) (by omega) (by omega) (by omega) ?_
        exact AOps.nil ⟨rfl, rfl, rfl⟩⟩,
      ⟨rfl, rfl, by
        refine n_imul (c := 0) rfl (by first | (simp only [nf, nfS, Nat.beq] <;> rfl) | rfl) (by first | (simp only [nf, nfS, Nat.beq] <;> rfl) | rfl) (by omega) (by omega) (by omega) ?_
        exact AOps.nil ⟨rfl, rfl, rfl⟩⟩,
      trivial⟩) ?_
  refine Walk.cases [([false, false], Ob.box (wzz (.sl f (L.map etz) (.own (i + 1))) d T U ow ep jo nx) :: (S1 ++ [Ob.box (etz x)]), Ob.box (wzz (.sl f (L.map etz) (.own (i + 1))) d T U ow ep jo nx) :: (S1 ++ [Ob.box (etz x)])), ([true, false], Ob.box (wzz (.sl f (L.map etz) (.own (i + 1))) d T U ow ep jo nx) :: (S1 ++ [Ob.box (etz x), .box [.sl (some true) [] .full, vi 0]]), Ob.box (wzz (.sl f (L.map etz) (.own (i + 1))) d T U ow ep jo nx) :: (S1 ++ [Ob.box (etz x), .box [.sl (some true) [] .full, vi 0]]))] (by rfl) (by kernel_rfl) (rs := [0]) (by rfl) (by first | (simp only [nf, nfS, Nat.beq] <;> rfl) | rfl) (fun base => ⟨
      ⟨rfl, rfl, by
        refine n_move rfl (by first | (simp only [nf, nfS, Nat.beq] <;> rfl) | rfl) ?_
        exact AOps.nil ⟨rfl, rfl, rfl⟩⟩,
      ⟨rfl, rfl, by
        refine n_move rfl (by first | (simp only [nf, nfS, Nat.beq] <;> rfl) | rfl) ?_
        exact AOps.nil ⟨rfl, rfl, rfl⟩⟩,
      trivial⟩) ?_
  refine Walk.cases [([false, false], Ob.box (wzz (.sl f (L.map etz) (.own (i + 1))) d T U ow ep jo nx) :: (S1 ++ [Ob.box (etz x)]), Ob.box (wzz (.sl f (L.map etz) (.own (i + 1))) d T U ow ep jo nx) :: (S1 ++ [Ob.box (etz x)])), ([true, false], Ob.box (wzz (.sl f (L.map etz) (.own (i + 1))) d T U ow ep jo nx) :: (S1 ++ [Ob.box (etz x), .box [.sl (some true) [] .full, vi 0]]), Ob.box (wzz (.sl f (L.map etz) (.own (i + 1))) d T U ow ep jo nx) :: (S1 ++ [Ob.box (etz x), .box [.sl (some true) [] .full, vi 0]]))] (by rfl) (by kernel_rfl) (rs := [1]) (by rfl) (by first | (simp only [nf, nfS, Nat.beq] <;> rfl) | rfl) (fun base => ⟨
      ⟨rfl, rfl, by
        refine n_move rfl (by first | (simp only [nf, nfS, Nat.beq] <;> rfl) | rfl) ?_
        exact AOps.nil ⟨rfl, rfl, rfl⟩⟩,
      ⟨rfl, rfl, by
        refine n_move rfl (by first | (simp only [nf, nfS, Nat.beq] <;> rfl) | rfl) ?_
        exact AOps.nil ⟨rfl, rfl, rfl⟩⟩,
      trivial⟩) ?_
  refine Walk.cases [([false, false], Ob.box (wzz (.sl f (L.map etz) (.own (i + 1))) d T U ow ep jo nx) :: (S1 ++ [Ob.box (etz x)]), Ob.box (wzz (.sl f (L.map etz) (.own (i + 1))) d T U ow ep jo nx) :: (S1 ++ [Ob.box (etz x)])), ([true, false], Ob.box (wzz (.sl f (L.map etz) (.own (i + 1))) d T U ow ep jo nx) :: (S1 ++ [Ob.box (etz x), .box [.sl (some true) [] .full, vi 0]]), Ob.box (wzz (.sl f (L.map etz) (.own (i + 1))) d T U ow ep jo nx) :: (S1 ++ [Ob.box (etz x), .box [.sl (some true) [] .full, vi 0]]))] (by rfl) (by kernel_rfl) (rs := [21]) (by rfl) (by first | (simp only [nf, nfS, Nat.beq] <;> rfl) | rfl) (fun base => ⟨
      ⟨rfl, rfl, by
        refine n_nilCheck rfl (by first | (simp only [nf, nfS, Nat.beq] <;> rfl) | rfl) rfl ?_
        exact AOps.nil ⟨rfl, rfl, rfl⟩⟩,
      ⟨rfl, rfl, by
        refine n_nilCheck rfl (by first | (simp only [nf, nfS, Nat.beq] <;> rfl) | rfl) rfl ?_
        exact AOps.nil ⟨rfl, rfl, rfl⟩⟩,
      trivial⟩) ?_
  refine Walk.cases [([false, false], Ob.box (wzz (.sl f (L.map etz) (.own (i + 1))) d T U ow ep jo nx) :: (S1 ++ [Ob.box (etz x)]), Ob.box (wzz (.sl f (L.map etz) (.own (i + 1))) d T U ow ep jo nx) :: (S1 ++ [Ob.box (etz x)])), ([true, false], Ob.box (wzz (.sl f (L.map etz) (.own (i + 1))) d T U ow ep jo nx) :: (S1 ++ [Ob.box (etz x), .box [.sl (some true) [] .full, vi 0]]), Ob.box (wzz (.sl f (L.map etz) (.own (i + 1))) d T U ow ep jo nx) :: (S1 ++ [Ob.box (etz x), .box [.sl (some true) [] .full, vi 0]]))] (by rfl) (by kernel_rfl) (rs := [23]) (by rfl) (by first | (simp only [nf, nfS, Nat.beq] <;> rfl) | rfl) (fun base => ⟨
      ⟨rfl, rfl, by
        refine n_fieldAddr rfl fd217_0 ti215 rfl (by first | (simp only [nf, nfS, Nat.beq] <;> rfl) | rfl) rfl (by first | (simp only [nf, nfS, Nat.beq] <;> rfl) | rfl) ?_
        exact AOps.nil ⟨rfl, rfl, rfl⟩⟩,
      ⟨rfl, rfl, by
        refine n_fieldAddr rfl fd217_0 ti215 rfl (by first | (simp only [nf, nfS, Nat.beq] <;> rfl) | rfl) rfl (by first | (simp only [nf, nfS, Nat.beq] <;> rfl) | rfl) ?_
        exact AOps.nil ⟨rfl, rfl, rfl⟩⟩,
      trivial⟩) ?_
  refine Walk.cases [([false, false], Ob.box (wzz (.sl f (L.map etz) (.own (i + 1))) d T U ow ep jo nx) :: (S1 ++ [Ob.box (etz x)]), Ob.box (wzz (.sl f (L.map etz) (.own (i + 1))) d T U ow ep jo nx) :: (S1 ++ [Ob.box (etz x)])), ([true, false], Ob.box (wzz (.sl f (L.map etz) (.own (i + 1))) d T U ow ep jo nx) :: (S1 ++ [Ob.box (etz x), .box [.sl (some true) [] .full, vi 0]]), Ob.box (wzz (.sl f (L.map etz) (.own (i + 1))) d T U ow ep jo nx) :: (S1 ++ [Ob.box (etz x), .box [.sl (some true) [] .full, vi 0]]))] (by rfl) (by kernel_rfl) (rs := [24, 22]) (by rfl) (by first | (simp only [nf, nfS, Nat.beq] <;> rfl) | rfl) (fun base => ⟨
      ⟨rfl, rfl, by
        refine n_arrAddr (q := 0) rfl Try.underlying215 ti214 (by first | (simp only [nf, nfS, Nat.beq] <;> rfl) | rfl) (by first | (simp only [nf, nfS, Nat.beq] <;> rfl) | rfl) (by decide) (by decide) rfl ?_
        exact AOps.nil ⟨rfl, rfl, rfl⟩⟩,
      ⟨rfl, rfl, by
        refine n_arrAddr (q := 0) rfl Try.underlying215 ti214 (by first | (simp only [nf, nfS, Nat.beq] <;> rfl) | rfl) (by first | (simp only [nf, nfS, Nat.beq] <;> rfl) | rfl) (by decide) (by decide) rfl ?_
        exact AOps.nil ⟨rfl, rfl, rfl⟩⟩,
      trivial⟩) ?_
  refine Walk.cases [([false, false], Ob.box (wzz (.sl f (L.map etz) (.own (i + 1))) d T U ow ep jo nx) :: (S1 ++ [Ob.box (etz x)]), Ob.box (wzz (.sl f (L.map etz) (.own (i + 1))) d T U ow ep jo nx) :: (S1 ++ [Ob.box (etz x)])), ([true, false], Ob.box (wzz (.sl f (L.map etz) (.own (i + 1))) d T U ow ep jo nx) :: (S1 ++ [Ob.box (etz x), .box [.sl (some true) [] .full, vi 0]]), Ob.box (wzz (.sl f (L.map etz) (.own (i + 1))) d T U ow ep jo nx) :: (S1 ++ [Ob.box (etz x), .box [.sl (some true) [] .full, vi 0]]))] (by rfl) (by kernel_rfl) (rs := [25]) (by rfl) (by first | (simp only [nf, nfS, Nat.beq] <;> rfl) | rfl) (fun base => ⟨
      ⟨rfl, rfl, by
        refine n_load rfl ti214 (by first | (simp only [nf, nfS, Nat.beq] <;> rfl) | rfl) (by first | (simp only [nf, nfS, Nat.beq] <;> rfl) | rfl) rfl (by first | (simp only [nf, nfS, Nat.beq] <;> rfl) | rfl) ?_
        exact AOps.nil ⟨rfl, rfl, rfl⟩⟩,
      ⟨rfl, rfl, by
        refine n_load rfl ti214 (by first | (simp only [nf, nfS, Nat.beq] <;> rfl) | rfl) (by first | (simp only [nf, nfS, Nat.beq] <;> rfl) | rfl) rfl (by first | (simp only [nf, nfS, Nat.beq] <;> rfl) | rfl) ?_
        exact AOps.nil ⟨rfl, rfl, rfl⟩⟩,
      trivial⟩) ?_
  refine Walk.cases [([false, false], Ob.box (wzz (.sl f (L.map etz) (.own (i + 1))) d T U ow ep jo nx) :: (S1 ++ [Ob.box (etz x)]), Ob.box (wzz (.sl f (L.map etz) (.own (i + 1))) d T U ow ep jo nx) :: (S1 ++ [Ob.box (etz x)])), ([true, false], Ob.box (wzz (.sl f (L.map etz) (.own (i + 1))) d T U ow ep jo nx) :: (S1 ++ [Ob.box (etz x), .box [.sl (some true) [] .full, vi 0]]), Ob.box (wzz (.sl f (L.map etz) (.own (i + 1))) d T U ow ep jo nx) :: (S1 ++ [Ob.box (etz x), .box [.sl (some true) [] .full, vi 0]]))] (by rfl) (by kernel_rfl) (rs := [26]) (by rfl) (by first | (simp only [nf, nfS, Nat.beq] <;> rfl) | rfl) (fun base => ⟨
      ⟨rfl, rfl, by
        refine n_len rfl Try.underlying214 (by first | (simp only [nf, nfS, Nat.beq] <;> rfl) | rfl) (n := (L.length : Int)) (by rw [List.length_map]) ?_
        exact AOps.nil ⟨rfl, rfl, rfl⟩⟩,
      ⟨rfl, rfl, by
        refine n_len rfl Try.underlying214 (by first | (simp only [nf, nfS, Nat.beq] <;> rfl) | rfl) (n := (L.length : Int)) (by rw [List.length_map]) ?_
        exact AOps.nil ⟨rfl, rfl, rfl⟩⟩,
      trivial⟩) ?_
  refine Walk.cases [([false, false], Ob.box (wzz (.sl f (L.map etz) (.own (i + 1))) d T U ow ep jo nx) :: (S1 ++ [Ob.box (etz x)]), Ob.box (wzz (.sl f (L.map etz) (.own (i + 1))) d T U ow ep jo nx) :: (S1 ++ [Ob.box (etz x)])), ([true, false], Ob.box (wzz (.sl f (L.map etz) (.own (i + 1))) d T U ow ep jo nx) :: (S1 ++ [Ob.box (etz x), .box [.sl (some true) [] .full, vi 0]]), Ob.box (wzz (.sl f (L.map etz) (.own (i + 1))) d T U ow ep jo nx) :: (S1 ++ [Ob.box (etz x), .box [.sl (some true) [] .full, vi 0]]))] (by rfl) (by kernel_rfl) (rs := [20, 27]) (by rfl) (by first | (simp only [nf, nfS, Nat.beq] <;> rfl) | rfl) (fun base => ⟨
      ⟨rfl, rfl, by
        refine n_iadd rfl (by first | (simp only [nf, nfS, Nat.beq] <;> rfl) | rfl) (by first | (simp only [nf, nfS, Nat.beq] <;> rfl) | rfl) rfl (by omega) (by omega) ?_
        exact AOps.nil ⟨rfl, rfl, rfl⟩⟩,
      ⟨rfl, rfl, by
        refine n_iadd rfl (by first | (simp only [nf, nfS, Nat.beq] <;> rfl) | rfl) (by first | (simp only [nf, nfS, Nat.beq] <;> rfl) | rfl) rfl (by omega) (by omega) ?_
        exact AOps.nil ⟨rfl, rfl, rfl⟩⟩,
      trivial⟩) ?_
  refine Walk.cases [([false, false], Ob.box (wzz (.sl f (L.map etz) (.own (i + 1))) d T U ow ep jo nx) :: (S1 ++ [Ob.box (etz x)]), Ob.box (wzz (.sl f (L.map etz) (.own (i + 1))) d T U ow ep jo nx) :: (S1 ++ [Ob.box (etz x)])), ([true, false], Ob.box (wzz (.sl f (L.map etz) (.own (i + 1))) d T U ow ep jo nx) :: (S1 ++ [Ob.box (etz x), .box [.sl (some true) [] .full, vi 0]]), Ob.box (wzz (.sl f (L.map etz) (.own (i + 1))) d T U ow ep jo nx) :: (S1 ++ [Ob.box (etz x), .box [.sl (some true) [] .full, vi 0]]))] (by rfl) (by kernel_rfl) (rs := [14, 16, 18, 28]) (by rfl) (by first | (simp only [nf, nfS, Nat.beq] <;> rfl) | rfl) (fun base => ⟨
      ⟨rfl, rfl, by
        refine n_call0B rfl cf223 rfl (Eq.trans (by simp only [nl] <;> rfl) (by first | (simp only [nf, nfS, Nat.beq] <;> rfl) | rfl)) (by repeat (first | exact .nil | refine .cons ?_ ?_ | exact ren_ints | exact .lf (.val _) | exact .lf (lf_ints (.inl rfl)) | exact .bp ⟨rfl, rfl⟩ | exact .bp (.inl ⟨rfl, rfl⟩) | exact .bp (.inr ⟨rfl, rfl⟩) | exact ren_nil0 | exact .lf (lf_fnrp (lf_cons (.val _) lf_nil)) | exact .lf (.rp (lf_cons (.val _) lf_nil)) | exact .bs ⟨rfl, rfl⟩ | exact .lf (D.flat_lf rfl) | exact ren_map (f := spz) (fun _ => rfl) | exact .lf (lf_tz _) | exact ren_tz | exact .lf (.fn (fun d h => by cases h) (fun d h => by cases h)) | exact .lf (lf_fnrp (lf_rp1 (f := spz) (fun _ => rfl))) | exact .ro (by intro x hx; simp only [List.mem_cons, List.not_mem_nil, or_false] at hx; rcases hx with rfl | rfl <;> exact flats_lf rfl))) (hadd) (by first | exact .val _ | exact lf_ints (.inl rfl) | exact lf_ints (.inr rfl) | exact .any | exact lf_nil0 | exact lf_fnrp (lf_cons (.val _) lf_nil) | exact D.flat_lf rfl | exact lf_map (f := spz) (fun _ => rfl) (.inl rfl) | exact lf_tz _ | exact .tup (lf_cons (lf_tz _) (lf_cons (.val _) lf_nil)) | exact lf_fnrp (lf_rp1 (f := spz) (fun _ => rfl))) ?_
        exact AOps.nil ⟨rfl, rfl, rfl⟩⟩,
      ⟨rfl, rfl, by
        refine n_call0B rfl cf223 rfl (Eq.trans (by simp only [nl] <;> rfl) (by first | (simp only [nf, nfS, Nat.beq] <;> rfl) | rfl)) (by repeat (first | exact .nil | refine .cons ?_ ?_ | exact ren_ints | exact .lf (.val _) | exact .lf (lf_ints (.inl rfl)) | exact .bp ⟨rfl, rfl⟩ | exact .bp (.inl ⟨rfl, rfl⟩) | exact .bp (.inr ⟨rfl, rfl⟩) | exact ren_nil0 | exact .lf (lf_fnrp (lf_cons (.val _) lf_nil)) | exact .lf (.rp (lf_cons (.val _) lf_nil)) | exact .bs ⟨rfl, rfl⟩ | exact .lf (D.flat_lf rfl) | exact ren_map (f := spz) (fun _ => rfl) | exact .lf (lf_tz _) | exact ren_tz | exact .lf (.fn (fun d h => by cases h) (fun d h => by cases h)) | exact .lf (lf_fnrp (lf_rp1 (f := spz) (fun _ => rfl))) | exact .ro (by intro x hx; simp only [List.mem_cons, List.not_mem_nil, or_false] at hx; rcases hx with rfl | rfl <;> exact flats_lf rfl))) (hadd) (by first | exact .val _ | exact lf_ints (.inl rfl) | exact lf_ints (.inr rfl) | exact .any | exact lf_nil0 | exact lf_fnrp (lf_cons (.val _) lf_nil) | exact D.flat_lf rfl | exact lf_map (f := spz) (fun _ => rfl) (.inl rfl) | exact lf_tz _ | exact .tup (lf_cons (lf_tz _) (lf_cons (.val _) lf_nil)) | exact lf_fnrp (lf_rp1 (f := spz) (fun _ => rfl))) ?_
        exact AOps.nil ⟨rfl, rfl, rfl⟩⟩,
      trivial⟩) ?_
  refine Walk.cases [([false, false], Ob.box (wzz (.sl f (L.map etz) (.own (i + 1))) d T U ow ep jo nx) :: (S1 ++ [Ob.box (etz x)]), Ob.box (wzz (.sl f (L.map etz) (.own (i + 1))) d T U ow ep jo nx) :: (S1 ++ [Ob.box (etz x)])), ([true, false], Ob.box (wzz (.sl f (L.map etz) (.own (i + 1))) d T U ow ep jo nx) :: (S1 ++ [Ob.box (etz x), .box [.sl (some true) [] .full, vi 0]]), Ob.box (wzz (.sl f (L.map etz) (.own (i + 1))) d T U ow ep jo nx) :: (S1 ++ [Ob.box (etz x), .box [.sl (some true) [] .full, vi 0]]))] (by rfl) (by kernel_rfl) (rs := [29]) (by rfl) (by first | (simp only [nf, nfS, Nat.beq] <;> rfl) | rfl) (fun base => ⟨
      ⟨rfl, rfl, by
        refine n_move rfl (by first | (simp only [nf, nfS, Nat.beq] <;> rfl) | rfl) ?_
        exact AOps.nil ⟨rfl, rfl, rfl⟩⟩,
      ⟨rfl, rfl, by
        refine n_move rfl (by first | (simp only [nf, nfS, Nat.beq] <;> rfl) | rfl) ?_
        exact AOps.nil ⟨rfl, rfl, rfl⟩⟩,
      trivial⟩) ?_
  refine Walk.cases [([false, false], Ob.box (wzz (.sl f (L.map etz) (.own (i + 1))) d T U ow ep jo nx) :: (S1 ++ [Ob.box (etz x)]), Ob.box (wzz (.sl f (L.map etz) (.own (i + 1))) d T U ow ep jo nx) :: (S1 ++ [Ob.box (etz x)])), ([true, false], Ob.box (wzz (.sl f (L.map etz) (.own (i + 1))) d T U ow ep jo nx) :: (S1 ++ [Ob.box (etz x), .box [.sl (some true) [] .full, vi 0]]), Ob.box (wzz (.sl f (L.map etz) (.own (i + 1))) d T U ow ep jo nx) :: (S1 ++ [Ob.box (etz x), .box [.sl (some true) [] .full, vi 0]]))] (by rfl) (by kernel_rfl) (rs := [8]) (by rfl) (by first | (simp only [nf, nfS, Nat.beq] <;> rfl) | rfl) (fun base => ⟨
      ⟨rfl, rfl, by
        refine n_extract rfl (by first | (simp only [nf, nfS, Nat.beq] <;> rfl) | rfl) rfl ?_
        exact AOps.nil ⟨rfl, rfl, rfl⟩⟩,
      ⟨rfl, rfl, by
        refine n_extract rfl (by first | (simp only [nf, nfS, Nat.beq] <;> rfl) | rfl) rfl ?_
        exact AOps.nil ⟨rfl, rfl, rfl⟩⟩,
      trivial⟩) ?_
  refine Walk.cases [([false, false], Ob.box (wzz (.sl f (L.map etz) (.own (i + 1))) d T U ow ep jo nx) :: (S1 ++ [Ob.box (etz x)]), Ob.box (wzz (.sl f (L.map etz) (.own (i + 1))) d T U ow ep jo nx) :: (S1 ++ [Ob.box (etz x)])), ([true, false], Ob.box (wzz (.sl f (L.map etz) (.own (i + 1))) d T U ow ep jo nx) :: (S1 ++ [Ob.box (etz x), .box [.sl (some true) [] .full, vi 0]]), Ob.box (wzz (.sl f (L.map etz) (.own (i + 1))) d T U ow ep jo nx) :: (S1 ++ [Ob.box (etz x), .box [.sl (some true) [] .full, vi 0]])), ([true, true], Ob.box (wzz (.sl f (L.map etz) (.own (i + 1))) d T U ow ep jo nx) :: (S1 ++ [Ob.box (etz x), Ob.box [.sl none (T'.l.map spz) .ro, vi T'.n]]), Ob.box (wzz (.sl f (L.map etz) (.own (i + 1))) d T U ow ep jo nx) :: (S1 ++ [Ob.box (etz x), Ob.box [.sl none (T'.l.map spz) .ro, vi T'.n]]))] (by rfl) (by kernel_rfl) (rs := [8]) (by rfl) (by first | (simp only [nf, nfS, Nat.beq] <;> rfl) | rfl) (fun base => ⟨
      ⟨rfl, rfl, by
        refine n_extract rfl (by first | (simp only [nf, nfS, Nat.beq] <;> rfl) | rfl) rfl ?_
        exact AOps.nil ⟨rfl, rfl, rfl⟩⟩,
      ⟨rfl, rfl, by
        refine n_extract rfl (by first | (simp only [nf, nfS, Nat.beq] <;> rfl) | rfl) rfl ?_
        exact AOps.nil ⟨rfl, rfl, rfl⟩⟩,
      ⟨rfl, rfl, by
        refine n_extract rfl (by first | (simp only [nf, nfS, Nat.beq] <;> rfl) | rfl) rfl ?_
        exact AOps.nil ⟨rfl, rfl, rfl⟩⟩,
      trivial⟩) ?_
  refine Walk.cases [([false, false], Ob.box (wzz (.sl f (L.map etz) (.own (i + 1))) d T U ow ep jo nx) :: (S1 ++ [Ob.box (etz x)]), Ob.box (wzz (.sl f (L.map etz) (.own (i + 1))) d T U ow ep jo nx) :: (S1 ++ [Ob.box (etz x), .box [.sl (some true) [] .full, vi 0]]))] (by rfl) (by kernel_rfl) (rs := []) (by rfl) (by first | (simp only [nf, nfS, Nat.beq] <;> rfl) | rfl) (fun base => ⟨
      ⟨rfl, rfl, by
        refine n_alloc rfl zi188 rfl (by first | (simp only [nf, nfS, Nat.beq] <;> rfl) | rfl) (by first | (simp only [nf, nfS, Nat.beq] <;> rfl) | rfl) ?_
        exact AOps.nil ⟨rfl, rfl, rfl⟩⟩,
      trivial⟩) ?_
  refine Walk.cases (d := .any) [([true, false], Ob.box (wzz (.sl f (L.map etz) (.own (i + 1))) d T U ow ep jo nx) :: (S1 ++ [Ob.box (etz x), .box [.sl (some true) [] .full, vi 0]]), Ob.box (wzz (.sl f (L.map etz) (.own (i + 1))) d T U ow ep jo nx) :: (S1 ++ [Ob.box (etz x), Ob.box [.sl none (T'.l.map spz) .ro, vi T'.n]]))] (by rfl) (by kernel_rfl) (rs := [6, 30]) (by rfl) (by first | (simp only [nf, nfS, Nat.beq] <;> rfl) | rfl) (fun base => ⟨
      ⟨rfl, rfl, by
        refine n_store ti188 (by first | (simp only [nf, nfS, Nat.beq] <;> rfl) | rfl) (by first | (simp only [nf, nfS, Nat.beq] <;> rfl) | rfl) (by first | (simp only [nf, nfS, Nat.beq] <;> rfl) | rfl) rfl (by first | (simp only [nf, nfS, Nat.beq] <;> rfl) | rfl) rfl rfl rfl (by first | (simp only [nf, nfS, Nat.beq] <;> rfl) | rfl) ?_
        exact AOps.nil ⟨rfl, rfl, rfl⟩⟩,
      trivial⟩) ?_
  refine Walk.cases [([true, true], Ob.box (wzz (.sl f (L.map etz) (.own (i + 1))) d T U ow ep jo nx) :: (S1 ++ [Ob.box (etz x), Ob.box [.sl none (T'.l.map spz) .ro, vi T'.n]]), Ob.box (wzz (.sl f (L.map etz) (.own (i + 1))) d T U ow ep jo nx) :: (S1 ++ [Ob.box (etz x), Ob.box [.sl none (T'.l.map spz) .ro, vi T'.n]]))] (by rfl) (by kernel_rfl) (rs := [31]) (by rfl) (by first | (simp only [nf, nfS, Nat.beq] <;> rfl) | rfl) (fun base => ⟨
      ⟨rfl, rfl, by
        refine n_assign rfl (by first | (simp only [nf, nfS, Nat.beq] <;> rfl) | rfl) ?_
        exact AOps.nil ⟨rfl, rfl, rfl⟩⟩,
      trivial⟩) ?_
  refine Walk.done ?_
  refine AWP.seq ?_
  refine AWP.region ?_
  refine n_move rfl (by first | (simp only [nf, nfS, Nat.beq] <;> rfl) | rfl) ?_
  refine n_move rfl (by first | (simp only [nf, nfS, Nat.beq] <;> rfl) | rfl) ?_
  refine n_nilCheck rfl (by first | (simp only [nf, nfS, Nat.beq] <;> rfl) | rfl) rfl ?_
  refine n_fieldAddr rfl fd217_6 ti4 rfl (by first | (simp only [nf, nfS, Nat.beq] <;> rfl) | rfl) rfl (by first | (simp only [nf, nfS, Nat.beq] <;> rfl) | rfl) ?_
  refine n_load rfl ti4 (by first | (simp only [nf, nfS, Nat.beq] <;> rfl) | rfl) (by first | (simp only [nf, nfS, Nat.beq] <;> rfl) | rfl) rfl (by first | (simp only [nf, nfS, Nat.beq] <;> rfl) | rfl) ?_
  refine n_move rfl (by first | (simp only [nf, nfS, Nat.beq] <;> rfl) | rfl) ?_
  refine n_guard_yes rfl rfl rfl (by first | (simp only [nf, nfS, Nat.beq] <;> rfl) | rfl) rfl ?_
  refine n_move rfl (by first | (simp only [nf, nfS, Nat.beq] <;> rfl) | rfl) ?_
  refine n_guard_yes rfl rfl rfl (by first | (simp only [nf, nfS, Nat.beq] <;> rfl) | rfl) rfl ?_
  refine n_ibin rfl (by first | (simp only [nf, nfS, Nat.beq] <;> rfl) | rfl) (by first | (simp only [nf, nfS, Nat.beq] <;> rfl) | rfl) rfl ?_
  refine n_pick rfl (by first | (simp only [nf, nfS, Nat.beq] <;> rfl) | rfl) (by first | (simp only [nf, nfS, Nat.beq] <;> rfl) | rfl) ?_
  refine n_nilCheck rfl (by first | (simp only [nf, nfS, Nat.beq] <;> rfl) | rfl) rfl ?_
  refine n_fieldAddr rfl fd217_6 ti4 rfl (by first | (simp only [nf, nfS, Nat.beq] <;> rfl) | rfl) rfl (by first | (simp only [nf, nfS, Nat.beq] <;> rfl) | rfl) ?_
  refine n_store ti4 (by first | (simp only [nf, nfS, Nat.beq] <;> rfl) | rfl) (by first | (simp only [nf, nfS, Nat.beq] <;> rfl) | rfl) (by first | (simp only [nf, nfS, Nat.beq] <;> rfl) | rfl) rfl (by first | (simp only [nf, nfS, Nat.beq] <;> rfl) | rfl) rfl rfl rfl (by first | (simp only [nf, nfS, Nat.beq] <;> rfl) | rfl) ?_
  refine AOps.nil ?_
  refine AWP.seq ?_
  refine AWP.any1 6 (Ob.box (wzz (.sl f (L.map etz) (.own (i + 1))) d T' U ow ep jo nx) :: (S1 ++ [Ob.box (etz x), Ob.box [.sl none (T'.l.map spz) .ro, vi T'.n]])) (by kernel_rfl) (by kernel_rfl) (by kernel_rfl) ?_
  refine Walk.ahead [6] (by rfl) (by kernel_rfl) (by rfl) (rs := [0]) (by rfl) (by first | (simp only [nf, nfS, Nat.beq] <;> rfl) | rfl) (fun base => by
      refine n_move rfl (by first | (simp only [nf, nfS, Nat.beq] <;> rfl) | rfl) ?_
      exact AOps.nil ⟨rfl, rfl, rfl⟩) ?_
  refine Walk.ahead [6] (by rfl) (by kernel_rfl) (by rfl) (rs := [1]) (by rfl) (by first | (simp only [nf, nfS, Nat.beq] <;> rfl) | rfl) (fun base => by
      refine n_move rfl (by first | (simp only [nf, nfS, Nat.beq] <;> rfl) | rfl) ?_
      exact AOps.nil ⟨rfl, rfl, rfl⟩) ?_
  refine Walk.ahead [6] (by rfl) (by kernel_rfl) (by rfl) (rs := [6]) (by rfl) (by first | (simp only [nf, nfS, Nat.beq] <;> rfl) | rfl) (fun base => by
      refine n_load rfl ti188 (by first | (simp only [nf, nfS, Nat.beq] <;> rfl) | rfl) (by first | (simp only [nf, nfS, Nat.beq] <;> rfl) | rfl) rfl (by first | (simp only [nf, nfS, Nat.beq] <;> rfl) | rfl) ?_
      exact AOps.nil ⟨rfl, rfl, rfl⟩) ?_
  refine Walk.ahead [4, 5, 6] (by rfl) (by kernel_rfl) (by rfl) (rs := [43]) (by rfl) (by first | (simp only [nf, nfS, Nat.beq] <;> rfl) | rfl) (fun base => by
      refine n_nilCheck rfl (by first | (simp only [nf, nfS, Nat.beq] <;> rfl) | rfl) rfl ?_
      exact AOps.nil ⟨rfl, rfl, rfl⟩) ?_
  refine Walk.ahead [5, 6] (by rfl) (by kernel_rfl) (by rfl) (rs := [46]) (by rfl) (by first | (simp only [nf, nfS, Nat.beq] <;> rfl) | rfl) (fun base => by
      refine n_fieldAddr rfl fd217_1 ti213 rfl (by first | (simp only [nf, nfS, Nat.beq] <;> rfl) | rfl) rfl (by first | (simp only [nf, nfS, Nat.beq] <;> rfl) | rfl) ?_
      exact AOps.nil ⟨rfl, rfl, rfl⟩) ?_
  refine Walk.ahead [6] (by rfl) (by kernel_rfl) (by rfl) (rs := [47, 44]) (by rfl) (by first | (simp only [nf, nfS, Nat.beq] <;> rfl) | rfl) (fun base => by
      refine n_arrAddr (q := 2) rfl Try.underlying213 ti188 (by first | (simp only [nf, nfS, Nat.beq] <;> rfl) | rfl) (by first | (simp only [nf, nfS, Nat.beq] <;> rfl) | rfl) (by decide) (by decide) rfl ?_
      exact AOps.nil ⟨rfl, rfl, rfl⟩) ?_
  refine Walk.writes (d := .any) (by rfl) (rs := [48, 45]) (by rfl) (by first | (simp only [nf, nfS, Nat.beq] <;> rfl) | rfl) (fun base => by
      refine n_store ti188 (by first | (simp only [nf, nfS, Nat.beq] <;> rfl) | rfl) (by first | (simp only [nf, nfS, Nat.beq] <;> rfl) | rfl) (by first | (simp only [nf, nfS, Nat.beq] <;> rfl) | rfl) rfl (by first | (simp only [nf, nfS, Nat.beq] <;> rfl) | rfl) rfl rfl rfl (by first | (simp only [nf, nfS, Nat.beq] <;> rfl) | rfl) ?_
      exact AOps.nil ⟨rfl, rfl, rfl⟩) ?_
  refine Walk.done ?_
  refine AWP.anyT [10, 14] (fun p => match p with | [false, false] => Ob.box (wzz (.sl f (L.map etz) (.own (i + 1))) d T' U ow ep jo nx) :: (S1 ++ [Ob.box (etz x), Ob.box [.sl none (T'.l.map spz) .ro, vi T'.n]]) | [true, false] => Ob.box (wzz (.sl f (L.map etz) (.own (i + 1))) d T' U ow ep jo nx) :: ((S1 ++ [Ob.box (etz x), Ob.box [.sl none (T'.l.map spz) .ro, vi T'.n]]).set i (Ob.row (L.length + 1) 3)) | [true, true] => Ob.box (wzz (.sl none ((L ++ [x]).map etz) (.own (i + 1))) d T' U ow ep jo nx) :: ((S1 ++ [Ob.box (etz x), Ob.box [.sl none (T'.l.map spz) .ro, vi T'.n]]).set i (Ob.row (L.length + 1) 3)) | _ => []) (by kernel_rfl) (by kernel_rfl) rfl rfl ?_
  refine Walk.cases [([false, false], Ob.box (wzz (.sl f (L.map etz) (.own (i + 1))) d T' U ow ep jo nx) :: (S1 ++ [Ob.box (etz x), Ob.box [.sl none (T'.l.map spz) .ro, vi T'.n]]), Ob.box (wzz (.sl f (L.map etz) (.own (i + 1))) d T' U ow ep jo nx) :: (S1 ++ [Ob.box (etz x), Ob.box [.sl none (T'.l.map spz) .ro, vi T'.n]])), ([true, false], Ob.box (wzz (.sl f (L.map etz) (.own (i + 1))) d T' U ow ep jo nx) :: ((S1 ++ [Ob.box (etz x), Ob.box [.sl none (T'.l.map spz) .ro, vi T'.n]]).set i (Ob.row (L.length + 1) 3)), Ob.box (wzz (.sl f (L.map etz) (.own (i + 1))) d T' U ow ep jo nx) :: ((S1 ++ [Ob.box (etz x), Ob.box [.sl none (T'.l.map spz) .ro, vi T'.n]]).set i (Ob.row (L.length + 1) 3)))] (by rfl) (by kernel_rfl) (rs := [0]) (by rfl) (by first | (simp only [nf, nfS, Nat.beq] <;> rfl) | rfl) (fun base => ⟨
      ⟨rfl, rfl, by
        refine n_move rfl (by first | (simp only [nf, nfS, Nat.beq] <;> rfl) | rfl) ?_
        exact AOps.nil ⟨rfl, rfl, rfl⟩⟩,
      ⟨rfl, rfl, by
        refine n_move rfl (by first | (simp only [nf, nfS, Nat.beq] <;> rfl) | rfl) ?_
        exact AOps.nil ⟨rfl, rfl, rfl⟩⟩,
      trivial⟩) ?_
  refine Walk.cases [([false, false], Ob.box (wzz (.sl f (L.map etz) (.own (i + 1))) d T' U ow ep jo nx) :: (S1 ++ [Ob.box (etz x), Ob.box [.sl none (T'.l.map spz) .ro, vi T'.n]]), Ob.box (wzz (.sl f (L.map etz) (.own (i + 1))) d T' U ow ep jo nx) :: (S1 ++ [Ob.box (etz x), Ob.box [.sl none (T'.l.map spz) .ro, vi T'.n]])), ([true, false], Ob.box (wzz (.sl f (L.map etz) (.own (i + 1))) d T' U ow ep jo nx) :: ((S1 ++ [Ob.box (etz x), Ob.box [.sl none (T'.l.map spz) .ro, vi T'.n]]).set i (Ob.row (L.length + 1) 3)), Ob.box (wzz (.sl f (L.map etz) (.own (i + 1))) d T' U ow ep jo nx) :: ((S1 ++ [Ob.box (etz x), Ob.box [.sl none (T'.l.map spz) .ro, vi T'.n]]).set i (Ob.row (L.length + 1) 3)))] (by rfl) (by kernel_rfl) (rs := [1]) (by rfl) (by first | (simp only [nf, nfS, Nat.beq] <;> rfl) | rfl) (fun base => ⟨
      ⟨rfl, rfl, by
        refine n_move rfl (by first | (simp only [nf, nfS, Nat.beq] <;> rfl) | rfl) ?_
        exact AOps.nil ⟨rfl, rfl, rfl⟩⟩,
      ⟨rfl, rfl, by
        refine n_move rfl (by first | (simp only [nf, nfS, Nat.beq] <;> rfl) | rfl) ?_
        exact AOps.nil ⟨rfl, rfl, rfl⟩⟩,
      trivial⟩) ?_
  refine Walk.cases [([false, false], Ob.box (wzz (.sl f (L.map etz) (.own (i + 1))) d T' U ow ep jo nx) :: (S1 ++ [Ob.box (etz x), Ob.box [.sl none (T'.l.map spz) .ro, vi T'.n]]), Ob.box (wzz (.sl f (L.map etz) (.own (i + 1))) d T' U ow ep jo nx) :: (S1 ++ [Ob.box (etz x), Ob.box [.sl none (T'.l.map spz) .ro, vi T'.n]]))] (by rfl) (by kernel_rfl) (rs := [0]) (by rfl) (by first | (simp only [nf, nfS, Nat.beq] <;> rfl) | rfl) (fun base => ⟨
      ⟨rfl, rfl, by
        refine n_move rfl (by first | (simp only [nf, nfS, Nat.beq] <;> rfl) | rfl) ?_
        exact AOps.nil ⟨rfl, rfl, rfl⟩⟩,
      trivial⟩) ?_
  refine Walk.cases [([false, false], Ob.box (wzz (.sl f (L.map etz) (.own (i + 1))) d T' U ow ep jo nx) :: (S1 ++ [Ob.box (etz x), Ob.box [.sl none (T'.l.map spz) .ro, vi T'.n]]), Ob.box (wzz (.sl f (L.map etz) (.own (i + 1))) d T' U ow ep jo nx) :: (S1 ++ [Ob.box (etz x), Ob.box [.sl none (T'.l.map spz) .ro, vi T'.n]]))] (by rfl) (by kernel_rfl) (rs := [1]) (by rfl) (by first | (simp only [nf, nfS, Nat.beq] <;> rfl) | rfl) (fun base => ⟨
      ⟨rfl, rfl, by
        refine n_move rfl (by first | (simp only [nf, nfS, Nat.beq] <;> rfl) | rfl) ?_
        exact AOps.nil ⟨rfl, rfl, rfl⟩⟩,
      trivial⟩) ?_
  refine Walk.cases [([false, false], Ob.box (wzz (.sl f (L.map etz) (.own (i + 1))) d T' U ow ep jo nx) :: (S1 ++ [Ob.box (etz x), Ob.box [.sl none (T'.l.map spz) .ro, vi T'.n]]), Ob.box (wzz (.sl f (L.map etz) (.own (i + 1))) d T' U ow ep jo nx) :: (S1 ++ [Ob.box (etz x), Ob.box [.sl none (T'.l.map spz) .ro, vi T'.n]]))] (by rfl) (by kernel_rfl) (rs := [51]) (by rfl) (by first | (simp only [nf, nfS, Nat.beq] <;> rfl) | rfl) (fun base => ⟨
      ⟨rfl, rfl, by
        refine n_nilCheck rfl (by first | (simp only [nf, nfS, Nat.beq] <;> rfl) | rfl) rfl ?_
        exact AOps.nil ⟨rfl, rfl, rfl⟩⟩,
      trivial⟩) ?_
  refine Walk.cases [([false, false], Ob.box (wzz (.sl f (L.map etz) (.own (i + 1))) d T' U ow ep jo nx) :: (S1 ++ [Ob.box (etz x), Ob.box [.sl none (T'.l.map spz) .ro, vi T'.n]]), Ob.box (wzz (.sl f (L.map etz) (.own (i + 1))) d T' U ow ep jo nx) :: (S1 ++ [Ob.box (etz x), Ob.box [.sl none (T'.l.map spz) .ro, vi T'.n]]))] (by rfl) (by kernel_rfl) (rs := [53]) (by rfl) (by first | (simp only [nf, nfS, Nat.beq] <;> rfl) | rfl) (fun base => ⟨
      ⟨rfl, rfl, by
        refine n_fieldAddr rfl fd217_0 ti215 rfl (by first | (simp only [nf, nfS, Nat.beq] <;> rfl) | rfl) rfl (by first | (simp only [nf, nfS, Nat.beq] <;> rfl) | rfl) ?_
        exact AOps.nil ⟨rfl, rfl, rfl⟩⟩,
      trivial⟩) ?_
  refine Walk.cases [([false, false], Ob.box (wzz (.sl f (L.map etz) (.own (i + 1))) d T' U ow ep jo nx) :: (S1 ++ [Ob.box (etz x), Ob.box [.sl none (T'.l.map spz) .ro, vi T'.n]]), Ob.box (wzz (.sl f (L.map etz) (.own (i + 1))) d T' U ow ep jo nx) :: (S1 ++ [Ob.box (etz x), Ob.box [.sl none (T'.l.map spz) .ro, vi T'.n]]))] (by rfl) (by kernel_rfl) (rs := [54, 52]) (by rfl) (by first | (simp only [nf, nfS, Nat.beq] <;> rfl) | rfl) (fun base => ⟨
      ⟨rfl, rfl, by
        refine n_arrAddr (q := 0) rfl Try.underlying215 ti214 (by first | (simp only [nf, nfS, Nat.beq] <;> rfl) | rfl) (by first | (simp only [nf, nfS, Nat.beq] <;> rfl) | rfl) (by decide) (by decide) rfl ?_
        exact AOps.nil ⟨rfl, rfl, rfl⟩⟩,
      trivial⟩) ?_
  refine Walk.cases [([false, false], Ob.box (wzz (.sl f (L.map etz) (.own (i + 1))) d T' U ow ep jo nx) :: (S1 ++ [Ob.box (etz x), Ob.box [.sl none (T'.l.map spz) .ro, vi T'.n]]), Ob.box (wzz (.sl f (L.map etz) (.own (i + 1))) d T' U ow ep jo nx) :: (S1 ++ [Ob.box (etz x), Ob.box [.sl none (T'.l.map spz) .ro, vi T'.n]]))] (by rfl) (by kernel_rfl) (rs := [55]) (by rfl) (by first | (simp only [nf, nfS, Nat.beq] <;> rfl) | rfl) (fun base => ⟨
      ⟨rfl, rfl, by
        refine n_load rfl ti214 (by first | (simp only [nf, nfS, Nat.beq] <;> rfl) | rfl) (by first | (simp only [nf, nfS, Nat.beq] <;> rfl) | rfl) rfl (by first | (simp only [nf, nfS, Nat.beq] <;> rfl) | rfl) ?_
        exact AOps.nil ⟨rfl, rfl, rfl⟩⟩,
      trivial⟩) ?_
  refine Walk.cases [([false, false], Ob.box (wzz (.sl f (L.map etz) (.own (i + 1))) d T' U ow ep jo nx) :: (S1 ++ [Ob.box (etz x), Ob.box [.sl none (T'.l.map spz) .ro, vi T'.n]]), Ob.box (wzz (.sl f (L.map etz) (.own (i + 1))) d T' U ow ep jo nx) :: (S1 ++ [Ob.box (etz x), Ob.box [.sl none (T'.l.map spz) .ro, vi T'.n]]))] (by rfl) (by kernel_rfl) (rs := [5]) (by rfl) (by first | (simp only [nf, nfS, Nat.beq] <;> rfl) | rfl) (fun base => ⟨
      ⟨rfl, rfl, by
        refine n_load rfl ti224 (by first | (simp only [nf, nfS, Nat.beq] <;> rfl) | rfl) (by first | (simp only [nf, nfS, Nat.beq] <;> rfl) | rfl) rfl (by first | (simp only [nf, nfS, Nat.beq] <;> rfl) | rfl) ?_
        exact AOps.nil ⟨rfl, rfl, rfl⟩⟩,
      trivial⟩) ?_
  refine Walk.cases [([false, false], Ob.box (wzz (.sl f (L.map etz) (.own (i + 1))) d T' U ow ep jo nx) :: (S1 ++ [Ob.box (etz x), Ob.box [.sl none (T'.l.map spz) .ro, vi T'.n]]), Ob.box (wzz (.sl f (L.map etz) (.own (i + 1))) d T' U ow ep jo nx) :: (S1 ++ [Ob.box (etz x), Ob.box [.sl none (T'.l.map spz) .ro, vi T'.n]]))] (by rfl) (by kernel_rfl) (rs := [57]) (by rfl) (by first | (simp only [nf, nfS, Nat.beq] <;> rfl) | rfl) (fun base => ⟨
      ⟨rfl, rfl, by
        refine n_lit rfl Try.underlying214 ti224 zi224 rfl rfl (Eq.trans (by simp only [nl] <;> rfl) (by first | (simp only [nf, nfS, Nat.beq] <;> rfl) | rfl)) rfl (by first | (simp only [nf, nfS, Nat.beq] <;> rfl) | rfl) ?_
        exact AOps.nil ⟨rfl, rfl, rfl⟩⟩,
      trivial⟩) ?_
  refine Walk.cases [([false, false], Ob.box (wzz (.sl f (L.map etz) (.own (i + 1))) d T' U ow ep jo nx) :: (S1 ++ [Ob.box (etz x), Ob.box [.sl none (T'.l.map spz) .ro, vi T'.n]]), Ob.box (wzz (.sl f (L.map etz) (.own (i + 1))) d T' U ow ep jo nx) :: ((S1 ++ [Ob.box (etz x), Ob.box [.sl none (T'.l.map spz) .ro, vi T'.n]]).set i (Ob.row (L.length + 1) 3)))] (by rfl) (by kernel_rfl) (rs := [56, 58]) (by rfl) (by first | (simp only [nf, nfS, Nat.beq] <;> rfl) | rfl) (fun base => ⟨
      ⟨rfl, rfl, by
        refine n_append_own (zs := (L ++ [x]).map etz) (m := L.length + 1) rfl Try.underlying214 Try.underlying214 ei224 (by first | (simp only [nf, nfS, Nat.beq] <;> rfl) | rfl) (by show (S1 ++ _)[i]? = _; rw [List.getElem?_append_left (List.getElem?_eq_some_iff.1 hr).1]; exact hr) (by rw [List.length_map]) (by first | (simp only [nf, nfS, Nat.beq] <;> rfl) | rfl) et4 (by intro y hy; simp at hy; subst hy; rfl) (by simp) (by simp) (by omega) rfl ?_
        exact AOps.nil ⟨rfl, rfl, rfl⟩⟩,
      trivial⟩) ?_
  refine Walk.cases [([false, false], Ob.box (wzz (.sl f (L.map etz) (.own (i + 1))) d T' U ow ep jo nx) :: (S1 ++ [Ob.box (etz x), Ob.box [.sl none (T'.l.map spz) .ro, vi T'.n]]), Ob.box (wzz (.sl f (L.map etz) (.own (i + 1))) d T' U ow ep jo nx) :: (S1 ++ [Ob.box (etz x), Ob.box [.sl none (T'.l.map spz) .ro, vi T'.n]])), ([true, false], Ob.box (wzz (.sl f (L.map etz) (.own (i + 1))) d T' U ow ep jo nx) :: ((S1 ++ [Ob.box (etz x), Ob.box [.sl none (T'.l.map spz) .ro, vi T'.n]]).set i (Ob.row (L.length + 1) 3)), Ob.box (wzz (.sl f (L.map etz) (.own (i + 1))) d T' U ow ep jo nx) :: ((S1 ++ [Ob.box (etz x), Ob.box [.sl none (T'.l.map spz) .ro, vi T'.n]]).set i (Ob.row (L.length + 1) 3)))] (by rfl) (by kernel_rfl) (rs := [49]) (by rfl) (by first | (simp only [nf, nfS, Nat.beq] <;> rfl) | rfl) (fun base => ⟨
      ⟨rfl, rfl, by
        refine n_nilCheck rfl (by first | (simp only [nf, nfS, Nat.beq] <;> rfl) | rfl) rfl ?_
        exact AOps.nil ⟨rfl, rfl, rfl⟩⟩,
      ⟨rfl, rfl, by
        refine n_nilCheck rfl (by first | (simp only [nf, nfS, Nat.beq] <;> rfl) | rfl) rfl ?_
        exact AOps.nil ⟨rfl, rfl, rfl⟩⟩,
      trivial⟩) ?_
  refine Walk.cases [([false, false], Ob.box (wzz (.sl f (L.map etz) (.own (i + 1))) d T' U ow ep jo nx) :: (S1 ++ [Ob.box (etz x), Ob.box [.sl none (T'.l.map spz) .ro, vi T'.n]]), Ob.box (wzz (.sl f (L.map etz) (.own (i + 1))) d T' U ow ep jo nx) :: (S1 ++ [Ob.box (etz x), Ob.box [.sl none (T'.l.map spz) .ro, vi T'.n]])), ([true, false], Ob.box (wzz (.sl f (L.map etz) (.own (i + 1))) d T' U ow ep jo nx) :: ((S1 ++ [Ob.box (etz x), Ob.box [.sl none (T'.l.map spz) .ro, vi T'.n]]).set i (Ob.row (L.length + 1) 3)), Ob.box (wzz (.sl f (L.map etz) (.own (i + 1))) d T' U ow ep jo nx) :: ((S1 ++ [Ob.box (etz x), Ob.box [.sl none (T'.l.map spz) .ro, vi T'.n]]).set i (Ob.row (L.length + 1) 3)))] (by rfl) (by kernel_rfl) (rs := [60]) (by rfl) (by first | (simp only [nf, nfS, Nat.beq] <;> rfl) | rfl) (fun base => ⟨
      ⟨rfl, rfl, by
        refine n_fieldAddr rfl fd217_0 ti215 rfl (by first | (simp only [nf, nfS, Nat.beq] <;> rfl) | rfl) rfl (by first | (simp only [nf, nfS, Nat.beq] <;> rfl) | rfl) ?_
        exact AOps.nil ⟨rfl, rfl, rfl⟩⟩,
      ⟨rfl, rfl, by
        refine n_fieldAddr rfl fd217_0 ti215 rfl (by first | (simp only [nf, nfS, Nat.beq] <;> rfl) | rfl) rfl (by first | (simp only [nf, nfS, Nat.beq] <;> rfl) | rfl) ?_
        exact AOps.nil ⟨rfl, rfl, rfl⟩⟩,
      trivial⟩) ?_
  refine Walk.cases [([true, false], Ob.box (wzz (.sl f (L.map etz) (.own (i + 1))) d T' U ow ep jo nx) :: ((S1 ++ [Ob.box (etz x), Ob.box [.sl none (T'.l.map spz) .ro, vi T'.n]]).set i (Ob.row (L.length + 1) 3)), Ob.box (wzz (.sl f (L.map etz) (.own (i + 1))) d T' U ow ep jo nx) :: ((S1 ++ [Ob.box (etz x), Ob.box [.sl none (T'.l.map spz) .ro, vi T'.n]]).set i (Ob.row (L.length + 1) 3)))] (by rfl) (by kernel_rfl) (rs := [61, 50]) (by rfl) (by first | (simp only [nf, nfS, Nat.beq] <;> rfl) | rfl) (fun base => ⟨
      ⟨rfl, rfl, by
        refine n_arrAddr (q := 0) rfl Try.underlying215 ti214 (by first | (simp only [nf, nfS, Nat.beq] <;> rfl) | rfl) (by first | (simp only [nf, nfS, Nat.beq] <;> rfl) | rfl) (by decide) (by decide) rfl ?_
        exact AOps.nil ⟨rfl, rfl, rfl⟩⟩,
      trivial⟩) ?_
  refine Walk.cases (d := .any) [([true, false], Ob.box (wzz (.sl f (L.map etz) (.own (i + 1))) d T' U ow ep jo nx) :: ((S1 ++ [Ob.box (etz x), Ob.box [.sl none (T'.l.map spz) .ro, vi T'.n]]).set i (Ob.row (L.length + 1) 3)), Ob.box (wzz (.sl none ((L ++ [x]).map etz) (.own (i + 1))) d T' U ow ep jo nx) :: ((S1 ++ [Ob.box (etz x), Ob.box [.sl none (T'.l.map spz) .ro, vi T'.n]]).set i (Ob.row (L.length + 1) 3)))] (by rfl) (by kernel_rfl) (rs := [62, 59]) (by rfl) (by first | (simp only [nf, nfS, Nat.beq] <;> rfl) | rfl) (fun base => ⟨
      ⟨rfl, rfl, by
        refine n_store ti214 (by first | (simp only [nf, nfS, Nat.beq] <;> rfl) | rfl) (by first | (simp only [nf, nfS, Nat.beq] <;> rfl) | rfl) (by first | (simp only [nf, nfS, Nat.beq] <;> rfl) | rfl) rfl (by first | (simp only [nf, nfS, Nat.beq] <;> rfl) | rfl) rfl rfl rfl (by first | (simp only [nf, nfS, Nat.beq] <;> rfl) | rfl) ?_
        exact AOps.nil ⟨rfl, rfl, rfl⟩⟩,
      trivial⟩) ?_
  refine Walk.done ?_
  refine finK_normal .nil (by first | (simp only [nf, nfS, Nat.beq] <;> rfl) | rfl) ?_
  exact hK _ i (kept_own hr)

set_option maxHeartbeats 2000000 in
theorem put_0full (d : D) (U T T' : Tb) (ow ep : Int) (jo : Bool) (nx : Int) (f : Option Bool) (L : List Et) (x : Et) (S1 : List Ob) (K : D → List Ob → Prop) (hL : L.length ≤ 1000) (hadd : Does Try.prog 223 [tz T, vi x.e, vi x.r, vi (0 + (L.length : Int))] [] (.tup [tz T', vi 0]) []) (hK : ∀ S2 j, Kept S1 S2 .full j (L.length + 1) → K (.tup []) (Ob.box (wzz (.sl none ((L ++ [x]).map etz) (.own (j + 1))) d T' U ow ep jo nx) :: S2)) : DoesK Try.prog 244 [.bp 0 0, vi 0, .agg (etz x)] (Ob.box (wzz (.sl f (L.map etz) .full) d T U ow ep jo nx) :: S1) K := by
  refine DoesK.of_body (rvs := []) Try.func244 rfl rfl rfl rfl ?_
  refine AWP.seq ?_
  refine AWP.region ?_
  refine n_box rfl (by first | (simp only [nf, nfS, Nat.beq] <;> rfl) | rfl) rfl rfl (by first | (simp only [nf, nfS, Nat.beq] <;> rfl) | rfl) (by first | (simp only [nf, nfS, Nat.beq] <;> rfl) | rfl) ?_
  refine AOps.nil ?_
  refine AWP.seq ?_
  refine AWP.anyT [24, 25] (fun p => match p with | [false, false] => Ob.box (wzz (.sl f (L.map etz) .full) d T U ow ep jo nx) :: (S1 ++ [Ob.box (etz x)]) | [true, false] => Ob.box (wzz (.sl f (L.map etz) .full) d T U ow ep jo nx) :: (S1 ++ [Ob.box (etz x), .box [.sl (some true) [] .full, vi 0]]) | [true, true] => Ob.box (wzz (.sl f (L.map etz) .full) d T U ow ep jo nx) :: (S1 ++ [Ob.box (etz x), Ob.box [.sl none (T'.l.map spz) .ro, vi T'.n]]) | _ => []) (by kernel_rfl) (by kernel_rfl) rfl rfl ?_
  refine Walk.cases [([false, false], Ob.box (wzz (.sl f (L.map etz) .full) d T U ow ep jo nx) :: (S1 ++ [Ob.box (etz x)]), Ob.box (wzz (.sl f (L.map etz) .full) d T U ow ep jo nx) :: (S1 ++ [Ob.box (etz x)])), ([true, false], Ob.box (wzz (.sl f (L.map etz) .full) d T U ow ep jo nx) :: (S1 ++ [Ob.box (etz x), .box [.sl (some true) [] .full, vi 0]]), Ob.box (wzz (.sl f (L.map etz) .full) d T U ow ep jo nx) :: (S1 ++ [Ob.box (etz x), .box [.sl (some true) [] .full, vi 0]]))] (by rfl) (by kernel_rfl) (rs := [0]) (by rfl) (by first | (simp only [nf, nfS, Nat.beq] <;> rfl) | rfl) (fun base => ⟨
      ⟨rfl, rfl, by
        refine n_move rfl (by first | (simp only [nf, nfS, Nat.beq] <;> rfl) | rfl) ?_
        exact AOps.nil ⟨rfl, rfl, rfl⟩⟩,
      ⟨rfl, rfl, by
        refine n_move rfl (by first | (simp only [nf, nfS, Nat.beq] <;> rfl) | rfl) ?_
        exact AOps.nil ⟨rfl, rfl, rfl⟩⟩,
      trivial⟩) ?_
  refine Walk.cases [([false, false], Ob.box (wzz (.sl f (L.map etz) .full) d T U ow ep jo nx) :: (S1 ++ [Ob.box (etz x)]), Ob.box (wzz (.sl f (L.map etz) .full) d T U ow ep jo nx) :: (S1 ++ [Ob.box (etz x)])), ([true, false], Ob.box (wzz (.sl f (L.map etz) .full) d T U ow ep jo nx) :: (S1 ++ [Ob.box (etz x), .box [.sl (some true) [] .full, vi 0]]), Ob.box (wzz (.sl f (L.map etz) .full) d T U ow ep jo nx) :: (S1 ++ [Ob.box (etz x), .box [.sl (some true) [] .full, vi 0]]))] (by rfl) (by kernel_rfl) (rs := [1]) (by rfl) (by first | (simp only [nf, nfS, Nat.beq] <;> rfl) | rfl) (fun base => ⟨
      ⟨rfl, rfl, by
        refine n_move rfl (by first | (simp only [nf, nfS, Nat.beq] <;> rfl) | rfl) ?_
        exact AOps.nil ⟨rfl, rfl, rfl⟩⟩,
      ⟨rfl, rfl, by
        refine n_move rfl (by first | (simp only [nf, nfS, Nat.beq] <;> rfl) | rfl) ?_
        exact AOps.nil ⟨rfl, rfl, rfl⟩⟩,
      trivial⟩) ?_
  refine Walk.cases [([false, false], Ob.box (wzz (.sl f (L.map etz) .full) d T U ow ep jo nx) :: (S1 ++ [Ob.box (etz x)]), Ob.box (wzz (.sl f (L.map etz) .full) d T U ow ep jo nx) :: (S1 ++ [Ob.box (etz x)])), ([true, false], Ob.box (wzz (.sl f (L.map etz) .full) d T U ow ep jo nx) :: (S1 ++ [Ob.box (etz x), .box [.sl (some true) [] .full, vi 0]]), Ob.box (wzz (.sl f (L.map etz) .full) d T U ow ep jo nx) :: (S1 ++ [Ob.box (etz x), .box [.sl (some true) [] .full, vi 0]]))] (by rfl) (by kernel_rfl) (rs := [9]) (by rfl) (by first | (simp only [nf, nfS, Nat.beq] <;> rfl) | rfl) (fun base => ⟨
      ⟨rfl, rfl, by
        refine n_nilCheck rfl (by first | (simp only [nf, nfS, Nat.beq] <;> rfl) | rfl) rfl ?_
        exact AOps.nil ⟨rfl, rfl, rfl⟩⟩,
      ⟨rfl, rfl, by
        refine n_nilCheck rfl (by first | (simp only [nf, nfS, Nat.beq] <;> rfl) | rfl) rfl ?_
        exact AOps.nil ⟨rfl, rfl, rfl⟩⟩,
      trivial⟩) ?_
  refine Walk.cases [([false, false], Ob.box (wzz (.sl f (L.map etz) .full) d T U ow ep jo nx) :: (S1 ++ [Ob.box (etz x)]), Ob.box (wzz (.sl f (L.map etz) .full) d T U ow ep jo nx) :: (S1 ++ [Ob.box (etz x)])), ([true, false], Ob.box (wzz (.sl f (L.map etz) .full) d T U ow ep jo nx) :: (S1 ++ [Ob.box (etz x), .box [.sl (some true) [] .full, vi 0]]), Ob.box (wzz (.sl f (L.map etz) .full) d T U ow ep jo nx) :: (S1 ++ [Ob.box (etz x), .box [.sl (some true) [] .full, vi 0]]))] (by rfl) (by kernel_rfl) (rs := [11]) (by rfl) (by first | (simp only [nf, nfS, Nat.beq] <;> rfl) | rfl) (fun base => ⟨
      ⟨rfl, rfl, by
        refine n_fieldAddr rfl fd217_1 ti213 rfl (by first | (simp only [nf, nfS, Nat.beq] <;> rfl) | rfl) rfl (by first | (simp only [nf, nfS, Nat.beq] <;> rfl) | rfl) ?_
        exact AOps.nil ⟨rfl, rfl, rfl⟩⟩,
      ⟨rfl, rfl, by
        refine n_fieldAddr rfl fd217_1 ti213 rfl (by first | (simp only [nf, nfS, Nat.beq] <;> rfl) | rfl) rfl (by first | (simp only [nf, nfS, Nat.beq] <;> rfl) | rfl) ?_
        exact AOps.nil ⟨rfl, rfl, rfl⟩⟩,
      trivial⟩) ?_
  refine Walk.cases [([false, false], Ob.box (wzz (.sl f (L.map etz) .full) d T U ow ep jo nx) :: (S1 ++ [Ob.box (etz x)]), Ob.box (wzz (.sl f (L.map etz) .full) d T U ow ep jo nx) :: (S1 ++ [Ob.box (etz x)])), ([true, false], Ob.box (wzz (.sl f (L.map etz) .full) d T U ow ep jo nx) :: (S1 ++ [Ob.box (etz x), .box [.sl (some true) [] .full, vi 0]]), Ob.box (wzz (.sl f (L.map etz) .full) d T U ow ep jo nx) :: (S1 ++ [Ob.box (etz x), .box [.sl (some true) [] .full, vi 0]]))] (by rfl) (by kernel_rfl) (rs := [12, 10]) (by rfl) (by first | (simp only [nf, nfS, Nat.beq] <;> rfl) | rfl) (fun base => ⟨
      ⟨rfl, rfl, by
        refine n_arrAddr (q := 2) rfl Try.underlying213 ti188 (by first | (simp only [nf, nfS, Nat.beq] <;> rfl) | rfl) (by first | (simp only [nf, nfS, Nat.beq] <;> rfl) | rfl) (by decide) (by decide) rfl ?_
        exact AOps.nil ⟨rfl, rfl, rfl⟩⟩,
      ⟨rfl, rfl, by
        refine n_arrAddr (q := 2) rfl Try.underlying213 ti188 (by first | (simp only [nf, nfS, Nat.beq] <;> rfl) | rfl) (by first | (simp only [nf, nfS, Nat.beq] <;> rfl) | rfl) (by decide) (by decide) rfl ?_
        exact AOps.nil ⟨rfl, rfl, rfl⟩⟩,
      trivial⟩) ?_
  refine Walk.cases [([false, false], Ob.box (wzz (.sl f (L.map etz) .full) d T U ow ep jo nx) :: (S1 ++ [Ob.box (etz x)]), Ob.box (wzz (.sl f (L.map etz) .full) d T U ow ep jo nx) :: (S1 ++ [Ob.box (etz x)])), ([true, false], Ob.box (wzz (.sl f (L.map etz) .full) d T U ow ep jo nx) :: (S1 ++ [Ob.box (etz x), .box [.sl (some true) [] .full, vi 0]]), Ob.box (wzz (.sl f (L.map etz) .full) d T U ow ep jo nx) :: (S1 ++ [Ob.box (etz x), .box [.sl (some true) [] .full, vi 0]]))] (by rfl) (by kernel_rfl) (rs := [13]) (by rfl) (by first | (simp only [nf, nfS, Nat.beq] <;> rfl) | rfl) (fun base => ⟨
      ⟨rfl, rfl, by
        refine n_load rfl ti188 (by first | (simp only [nf, nfS, Nat.beq] <;> rfl) | rfl) (by first | (simp only [nf, nfS, Nat.beq] <;> rfl) | rfl) rfl (by first | (simp only [nf, nfS, Nat.beq] <;> rfl) | rfl) ?_
        exact AOps.nil ⟨rfl, rfl, rfl⟩⟩,
      ⟨rfl, rfl, by
        refine n_load rfl ti188 (by first | (simp only [nf, nfS, Nat.beq] <;> rfl) | rfl) (by first | (simp only [nf, nfS, Nat.beq] <;> rfl) | rfl) rfl (by first | (simp only [nf, nfS, Nat.beq] <;> rfl) | rfl) ?_
        exact AOps.nil ⟨rfl, rfl, rfl⟩⟩,
      trivial⟩) ?_
  refine Walk.cases [([false, false], Ob.box (wzz (.sl f (L.map etz) .full) d T U ow ep jo nx) :: (S1 ++ [Ob.box (etz x)]), Ob.box (wzz (.sl f (L.map etz) .full) d T U ow ep jo nx) :: (S1 ++ [Ob.box (etz x)])), ([true, false], Ob.box (wzz (.sl f (L.map etz) .full) d T U ow ep jo nx) :: (S1 ++ [Ob.box (etz x), .box [.sl (some true) [] .full, vi 0]]), Ob.box (wzz (.sl f (L.map etz) .full) d T U ow ep jo nx) :: (S1 ++ [Ob.box (etz x), .box [.sl (some true) [] .full, vi 0]]))] (by rfl) (by kernel_rfl) (rs := [5]) (by rfl) (by first | (simp only [nf, nfS, Nat.beq] <;> rfl) | rfl) (fun base => ⟨
      ⟨rfl, rfl, by
        refine n_fieldAddr rfl fd224_1 ti2 rfl (by first | (simp only [nf, nfS, Nat.beq] <;> rfl) | rfl) rfl (by first | (simp only [nf, nfS, Nat.beq] <;> rfl) | rfl) ?_
        exact AOps.nil ⟨rfl, rfl, rfl⟩⟩,
      ⟨rfl, rfl, by
        refine n_fieldAddr rfl fd224_1 ti2 rfl (by first | (simp only [nf, nfS, Nat.beq] <;> rfl) | rfl) rfl (by first | (simp only [nf, nfS, Nat.beq] <;> rfl) | rfl) ?_
        exact AOps.nil ⟨rfl, rfl, rfl⟩⟩,
      trivial⟩) ?_
  refine Walk.cases [([false, false], Ob.box (wzz (.sl f (L.map etz) .full) d T U ow ep jo nx) :: (S1 ++ [Ob.box (etz x)]), Ob.box (wzz (.sl f (L.map etz) .full) d T U ow ep jo nx) :: (S1 ++ [Ob.box (etz x)])), ([true, false], Ob.box (wzz (.sl f (L.map etz) .full) d T U ow ep jo nx) :: (S1 ++ [Ob.box (etz x), .box [.sl (some true) [] .full, vi 0]]), Ob.box (wzz (.sl f (L.map etz) .full) d T U ow ep jo nx) :: (S1 ++ [Ob.box (etz x), .box [.sl (some true) [] .full, vi 0]]))] (by rfl) (by kernel_rfl) (rs := [15]) (by rfl) (by first | (simp only [nf, nfS, Nat.beq] <;> rfl) | rfl) (fun base => ⟨
      ⟨rfl, rfl, by
        refine n_load rfl ti2 (by first | (simp only [nf, nfS, Nat.beq] <;> rfl) | rfl) (by first | (simp only [nf, nfS, Nat.beq] <;> rfl) | rfl) rfl (by first | (simp only [nf, nfS, Nat.beq] <;> rfl) | rfl) ?_
        exact AOps.nil ⟨rfl, rfl, rfl⟩⟩,
      ⟨rfl, rfl, by
        refine n_load rfl ti2 (by first | (simp only [nf, nfS, Nat.beq] <;> rfl) | rfl) (by first | (simp only [nf, nfS, Nat.beq] <;> rfl) | rfl) rfl (by first | (simp only [nf, nfS, Nat.beq] <;> rfl) | rfl) ?_
        exact AOps.nil ⟨rfl, rfl, rfl⟩⟩,
      trivial⟩) ?_
  refine Walk.cases [([false, false], Ob.box (wzz (.sl f (L.map etz) .full) d T U ow ep jo nx) :: (S1 ++ [Ob.box (etz x)]), Ob.box (wzz (.sl f (L.map etz) .full) d T U ow ep jo nx) :: (S1 ++ [Ob.box (etz x)])), ([true, false], Ob.box (wzz (.sl f (L.map etz) .full) d T U ow ep jo nx) :: (S1 ++ [Ob.box (etz x), .box [.sl (some true) [] .full, vi 0]]), Ob.box (wzz (.sl f (L.map etz) .full) d T U ow ep jo nx) :: (S1 ++ [Ob.box (etz x), .box [.sl (some true) [] .full, vi 0]]))] (by rfl) (by kernel_rfl) (rs := [5]) (by rfl) (by first | (simp only [nf, nfS, Nat.beq] <;> rfl) | rfl) (fun base => ⟨
      ⟨rfl, rfl, by
        refine n_fieldAddr rfl fd224_2 ti3 rfl (by first | (simp only [nf, nfS, Nat.beq] <;> rfl) | rfl) rfl (by first | (simp only [nf, nfS, Nat.beq] <;> rfl) | rfl) ?_
        exact AOps.nil ⟨rfl, rfl, rfl⟩⟩,
      ⟨rfl, rfl, by
        refine n_fieldAddr rfl fd224_2 ti3 rfl (by first | (simp only [nf, nfS, Nat.beq] <;> rfl) | rfl) rfl (by first | (simp only [nf, nfS, Nat.beq] <;> rfl) | rfl) ?_
        exact AOps.nil ⟨rfl, rfl, rfl⟩⟩,
      trivial⟩) ?_
  refine Walk.cases [([false, false], Ob.box (wzz (.sl f (L.map etz) .full) d T U ow ep jo nx) :: (S1 ++ [Ob.box (etz x)]), Ob.box (wzz (.sl f (L.map etz) .full) d T U ow ep jo nx) :: (S1 ++ [Ob.box (etz x)])), ([true, false], Ob.box (wzz (.sl f (L.map etz) .full) d T U ow ep jo nx) :: (S1 ++ [Ob.box (etz x), .box [.sl (some true) [] .full, vi 0]]), Ob.box (wzz (.sl f (L.map etz) .full) d T U ow ep jo nx) :: (S1 ++ [Ob.box (etz x), .box [.sl (some true) [] .full, vi 0]]))] (by rfl) (by kernel_rfl) (rs := [17]) (by rfl) (by first | (simp only [nf, nfS, Nat.beq] <;> rfl) | rfl) (fun base => ⟨
      ⟨rfl, rfl, by
        refine n_load rfl ti3 (by first | (simp only [nf, nfS, Nat.beq] <;> rfl) | rfl) (by first | (simp only [nf, nfS, Nat.beq] <;> rfl) | rfl) rfl (by first | (simp only [nf, nfS, Nat.beq] <;> rfl) | rfl) ?_
        exact AOps.nil ⟨rfl, rfl, rfl⟩⟩,
      ⟨rfl, rfl, by
        refine n_load rfl ti3 (by first | (simp only [nf, nfS, Nat.beq] <;> rfl) | rfl) (by first | (simp only [nf, nfS, Nat.beq] <;> rfl) | rfl) rfl (by first | (simp only [nf, nfS, Nat.beq] <;> rfl) | rfl) ?_
        exact AOps.nil ⟨rfl, rfl, rfl⟩⟩,
      trivial⟩) ?_
  refine Walk.cases [([false, false], Ob.box (wzz (.sl f (L.map etz) .full) d T U ow ep jo nx) :: (S1 ++ [Ob.box (etz x)]), Ob.box (wzz (.sl f (L.map etz) .full) d T U ow ep jo nx) :: (S1 ++ [Ob.box (etz x)])), ([true, false], Ob.box (wzz (.sl f (L.map etz) .full) d T U ow ep jo nx) :: (S1 ++ [Ob.box (etz x), .box [.sl (some true) [] .full, vi 0]]), Ob.box (wzz (.sl f (L.map etz) .full) d T U ow ep jo nx) :: (S1 ++ [Ob.box (etz x), .box [.sl (some true) [] .full, vi 0]]))] (by rfl) (by kernel_rfl) (rs := [1]) (by rfl) (by first | (simp only [nf, nfS, Nat.beq] <;> rfl) | rfl) (fun base => ⟨
      ⟨rfl, rfl, by
        refine n_move rfl (by first | (simp only [nf, nfS, Nat.beq] <;> rfl) | rfl) ?_
        exact AOps.nil ⟨rfl, rfl, rfl⟩⟩,
      ⟨rfl, rfl, by
        refine n_move rfl (by first | (simp only [nf, nfS, Nat.beq] <;> rfl) | rfl) ?_
        exact AOps.nil ⟨rfl, rfl, rfl⟩⟩,
      trivial⟩) ?_
  refine Walk.cases [([false, false], Ob.box (wzz (.sl f (L.map etz) .full) d T U ow ep jo nx) :: (S1 ++ [Ob.box (etz x)]), Ob.box (wzz (.sl f (L.map etz) .full) d T U ow ep jo nx) :: (S1 ++ [Ob.box (etz x)])), ([true, false], Ob.box (wzz (.sl f (L.map etz) .full) d T U ow ep jo nx) :: (S1 ++ [Ob.box (etz x), .box [.sl (some true) [] .full, vi 0]]), Ob.box (wzz (.sl f (L.map etz) .full) d T U ow ep jo nx) :: (S1 ++ [Ob.box (etz x), .box [.sl (some true) [] .full, vi 0]]))] (by rfl) (by kernel_rfl) (rs := [19]) (by rfl) (by first | (simp only [nf, nfS, Nat.beq] <;> rfl) | rfl) (fun base => ⟨
      ⟨rfl, rfl, by
        refine n_imul (c := 0) rfl (by first | (simp only [nf, nfS, Nat.beq] <;> rfl) | rfl) (by first | (simp only [nf, nfS, Nat.beq] <;> rfl) | rfl) (by omega) (by omega) (by omega) ?_
        exact AOps.nil ⟨rfl, rfl, rfl⟩⟩,
      ⟨rfl, rfl, by
        refine n_imul (c := 0) rfl (by first | (simp only [nf, nfS, Nat.beq] <;> rfl) | rfl) (by first | (simp only [nf, nfS, Nat.beq] <;> rfl) | rfl) (by omega) (by omega) (by omega) ?_
        exact AOps.nil ⟨rfl, rfl, rfl⟩⟩,
      trivial⟩) ?_
  refine Walk.cases [([false, false], Ob.box (wzz (.sl f (L.map etz) .full) d T U ow ep jo nx) :: (S1 ++ [Ob.box (etz x)]), Ob.box (wzz (.sl f (L.map etz) .full) d T U ow ep jo nx) :: (S1 ++ [Ob.box (etz x)])), ([true, false], Ob.box (wzz (.sl f (L.map etz) .full) d T U ow ep jo nx) :: (S1 ++ [Ob.box (etz x), .box [.sl (some true) [] .full, vi 0]]), Ob.box (wzz (.sl f (L.map etz) .full) d T U ow ep jo nx) :: (S1 ++ [Ob.box (etz x), .box [.sl (some true) [] .full, vi 0]]))] (by rfl) (by kernel_rfl) (rs := [0]) (by rfl) (by first | (simp only [nf, nfS, Nat.beq] <;> rfl) | rfl) (fun base => ⟨
      ⟨rfl, rfl, by
        refine n_move rfl (by first | (simp only [nf, nfS, Nat.beq] <;> rfl) | rfl) ?_
        exact AOps.nil ⟨rfl, rfl, rfl⟩⟩,
      ⟨rfl, rfl, by
        refine n_move rfl (by first | (simp only [nf, nfS, Nat.beq] <;> rfl) | rfl) ?_
        exact AOps.nil ⟨rfl, rfl, rfl⟩⟩,
      trivial⟩) ?_
  refine Walk.cases [([false, false], Ob.box (wzz (.sl f (L.map etz) .full) d T U ow ep jo nx) :: (S1 ++ [Ob.box (etz x)]), Ob.box (wzz (.sl f (L.map etz) .full) d T U ow ep jo nx) :: (S1 ++ [Ob.box (etz x)])), ([true, false], Ob.box (wzz (.sl f (L.map etz) .full) d T U ow ep jo nx) :: (S1 ++ [Ob.box (etz x), .box [.sl (some true) [] .full, vi 0]]), Ob.box (wzz (.sl f (L.map etz) .full) d T U ow ep jo nx) :: (S1 ++ [Ob.box (etz x), .box [.sl (some true) [] .full, vi 0]]))] (by rfl) (by kernel_rfl) (rs := [1]) (by rfl) (by first | (simp only [nf, nfS, Nat.beq] <;> rfl) | rfl) (fun base => ⟨
      ⟨rfl, rfl, by
        refine n_move rfl (by first | (simp only [nf, nfS, Nat.beq] <;> rfl) | rfl) ?_
        exact AOps.nil ⟨rfl, rfl, rfl⟩⟩,
      ⟨rfl, rfl, by
        refine n_move rfl (by first | (simp only [nf, nfS, Nat.beq] <;> rfl) | rfl) ?_
        exact AOps.nil ⟨rfl, rfl, rfl⟩⟩,
      trivial⟩) ?_
  refine Walk.cases [([false, false], Ob.box (wzz (.sl f (L.map etz) .full) d T U ow ep jo nx) :: (S1 ++ [Ob.box (etz x)]), Ob.box (wzz (.sl f (L.map etz) .full) d T U ow ep jo nx) :: (S1 ++ [Ob.box (etz x)])), ([true, false], Ob.box (wzz (.sl f (L.map etz) .full) d T U ow ep jo nx) :: (S1 ++ [Ob.box (etz x), .box [.sl (some true) [] .full, vi 0]]), Ob.box (wzz (.sl f (L.map etz) .full) d T U ow ep jo nx) :: (S1 ++ [Ob.box (etz x), .box [.sl (some true) [] .full, vi 0]]))] (by rfl) (by kernel_rfl) (rs := [21]) (by rfl) (by first | (simp only [nf, nfS, Nat.beq] <;> rfl) | rfl) (fun base => ⟨
      ⟨rfl, rfl, by
        refine n_nilCheck rfl (by first | (simp only [nf, nfS, Nat.beq] <;> rfl) | rfl) rfl ?_
        exact AOps.nil ⟨rfl, rfl, rfl⟩⟩,
      ⟨rfl, rfl, by
        refine n_nilCheck rfl (by first | (simp only [nf, nfS, Nat.beq] <;> rfl) | rfl) rfl ?_
        exact AOps.nil ⟨rfl, rfl, rfl⟩⟩,
      trivial⟩) ?_
  refine Walk.cases [([false, false], Ob.box (wzz (.sl f (L.map etz) .full) d T U ow ep jo nx) :: (S1 ++ [Ob.box (etz x)]), Ob.box (wzz (.sl f (L.map etz) .full) d T U ow ep jo nx) :: (S1 ++ [Ob.box (etz x)])), ([true, false], Ob.box (wzz (.sl f (L.map etz) .full) d T U ow ep jo nx) :: (S1 ++ [Ob.box (etz x), .box [.sl (some true) [] .full, vi 0]]), Ob.box (wzz (.sl f (L.map etz) .full) d T U ow ep jo nx) :: (S1 ++ [Ob.box (etz x), .box [.sl (some true) [] .full, vi 0]]))] (by rfl) (by kernel_rfl) (rs := [23]) (by rfl) (by first | (simp only [nf, nfS, Nat.beq] <;> rfl) | rfl) (fun base => ⟨
      ⟨rfl, rfl, by
        refine n_fieldAddr rfl fd217_0 ti215 rfl (by first | (simp only [nf, nfS, Nat.beq] <;> rfl) | rfl) rfl (by first | (simp only [nf, nfS, Nat.beq] <;> rfl) | rfl) ?_
        exact AOps.nil ⟨rfl, rfl, rfl⟩⟩,
      ⟨rfl, rfl, by
        refine n_fieldAddr rfl fd217_0 ti215 rfl (by first | (simp only [nf, nfS, Nat.beq] <;> rfl) | rfl) rfl (by first | (simp only [nf, nfS, Nat.beq] <;> rfl) | rfl) ?_
        exact AOps.nil ⟨rfl, rfl, rfl⟩⟩,
      trivial⟩) ?_
  refine Walk.cases [([false, false], Ob.box (wzz (.sl f (L.map etz) .full) d T U ow ep jo nx) :: (S1 ++ [Ob.box (etz x)]), Ob.box (wzz (.sl f (L.map etz) .full) d T U ow ep jo nx) :: (S1 ++ [Ob.box (etz x)])), ([true, false], Ob.box (wzz (.sl f (L.map etz) .full) d T U ow ep jo nx) :: (S1 ++ [Ob.box (etz x), .box [.sl (some true) [] .full, vi 0]]), Ob.box (wzz (.sl f (L.map etz) .full) d T U ow ep jo nx) :: (S1 ++ [Ob.box (etz x), .box [.sl (some true) [] .full, vi 0]]))] (by rfl) (by kernel_rfl) (rs := [24, 22]) (by rfl) (by first | (simp only [nf, nfS, Nat.beq] <;> rfl) | rfl) (fun base => ⟨
      ⟨rfl, rfl, by
        refine n_arrAddr (q := 0) rfl Try.underlying215 ti214 (by first | (simp only [nf, nfS, Nat.beq] <;> rfl) | rfl) (by first | (simp only [nf, nfS, Nat.beq] <;> rfl) | rfl) (by decide) (by decide) rfl ?_
        exact AOps.nil ⟨rfl, rfl, rfl⟩⟩,
      ⟨rfl, rfl, by
        refine n_arrAddr (q := 0) rfl Try.underlying215 ti214 (by first | (simp only [nf, nfS, Nat.beq] <;> rfl) | rfl) (by first | (simp only [nf, nfS, Nat.beq] <;> rfl) | rfl) (by decide) (by decide) rfl ?_
        exact AOps.nil ⟨rfl, rfl, rfl⟩⟩,
      trivial⟩) ?_
  refine Walk.cases [([false, false], Ob.box (wzz (.sl f (L.map etz) .full) d T U ow ep jo nx) :: (S1 ++ [Ob.box (etz x)]), Ob.box (wzz (.sl f (L.map etz) .full) d T U ow ep jo nx) :: (S1 ++ [Ob.box (etz x)])), ([true, false], Ob.box (wzz (.sl f (L.map etz) .full) d T U ow ep jo nx) :: (S1 ++ [Ob.box (etz x), .box [.sl (some true) [] .full, vi 0]]), Ob.box (wzz (.sl f (L.map etz) .full) d T U ow ep jo nx) :: (S1 ++ [Ob.box (etz x), .box [.sl (some true) [] .full, vi 0]]))] (by rfl) (by kernel_rfl) (rs := [25]) (by rfl) (by first | (simp only [nf, nfS, Nat.beq] <;> rfl) | rfl) (fun base => ⟨
      ⟨rfl, rfl, by
        refine n_load rfl ti214 (by first | (simp only [nf, nfS, Nat.beq] <;> rfl) | rfl) (by first | (simp only [nf, nfS, Nat.beq] <;> rfl) | rfl) rfl (by first | (simp only [nf, nfS, Nat.beq] <;> rfl) | rfl) ?_
        exact AOps.nil ⟨rfl, rfl, rfl⟩⟩,
      ⟨rfl, rfl, by
        refine n_load rfl ti214 (by first | (simp only [nf, nfS, Nat.beq] <;> rfl) | rfl) (by first | (simp only [nf, nfS, Nat.beq] <;> rfl) | rfl) rfl (by first | (simp only [nf, nfS, Nat.beq] <;> rfl) | rfl) ?_
        exact AOps.nil ⟨rfl, rfl, rfl⟩⟩,
      trivial⟩) ?_
  refine Walk.cases [([false, false], Ob.box (wzz (.sl f (L.map etz) .full) d T U ow ep jo nx) :: (S1 ++ [Ob.box (etz x)]), Ob.box (wzz (.sl f (L.map etz) .full) d T U ow ep jo nx) :: (S1 ++ [Ob.box (etz x)])), ([true, false], Ob.box (wzz (.sl f (L.map etz) .full) d T U ow ep jo nx) :: (S1 ++ [Ob.box (etz x), .box [.sl (some true) [] .full, vi 0]]), Ob.box (wzz (.sl f (L.map etz) .full) d T U ow ep jo nx) :: (S1 ++ [Ob.box (etz x), .box [.sl (some true) [] .full, vi 0]]))] (by rfl) (by kernel_rfl) (rs := [26]) (by rfl) (by first | (simp only [nf, nfS, Nat.beq] <;> rfl) | rfl) (fun base => ⟨
      ⟨rfl, rfl, by
        refine n_len rfl Try.underlying214 (by first | (simp only [nf, nfS, Nat.beq] <;> rfl) | rfl) (n := (L.length : Int)) (by rw [List.length_map]) ?_
        exact AOps.nil ⟨rfl, rfl, rfl⟩⟩,
      ⟨rfl, rfl, by
        refine n_len rfl Try.underlying214 (by first | (simp only [nf, nfS, Nat.beq] <;> rfl) | rfl) (n := (L.length : Int)) (by rw [List.length_map]) ?_
        exact AOps.nil ⟨rfl, rfl, rfl⟩⟩,
      trivial⟩) ?_
  refine Walk.cases [([false, false], Ob.box (wzz (.sl f (L.map etz) .full) d T U ow ep jo nx) :: (S1 ++ [Ob.box (etz x)]), Ob.box (wzz (.sl f (L.map etz) .full) d T U ow ep jo nx) :: (S1 ++ [Ob.box (etz x)])), ([true, false], Ob.box (wzz (.sl f (L.map etz) .full) d T U ow ep jo nx) :: (S1 ++ [Ob.box (etz x), .box [.sl (some true) [] .full, vi 0]]), Ob.box (wzz (.sl f (L.map etz) .full) d T U ow ep jo nx) :: (S1 ++ [Ob.box (etz x), .box [.sl (some true) [] .full, vi 0]]))] (by rfl) (by kernel_rfl) (rs := [20, 27]) (by rfl) (by first | (simp only [nf, nfS, Nat.beq] <;> rfl) | rfl) (fun base => ⟨
      ⟨rfl, rfl, by
        refine n_iadd rfl (by first | (simp only [nf, nfS, Nat.beq] <;> rfl) | rfl) (by first | (simp only [nf, nfS, Nat.beq] <;> rfl) | rfl) rfl (by omega) (by omega) ?_
        exact AOps.nil ⟨rfl, rfl, rfl⟩⟩,
      ⟨rfl, rfl, by
        refine n_iadd rfl (by first | (simp only [nf, nfS, Nat.beq] <;> rfl) | rfl) (by first | (simp only [nf, nfS, Nat.beq] <;> rfl) | rfl) rfl (by omega) (by omega) ?_
        exact AOps.nil ⟨rfl, rfl, rfl⟩⟩,
      trivial⟩) ?_
  refine Walk.cases [([false, false], Ob.box (wzz (.sl f (L.map etz) .full) d T U ow ep jo nx) :: (S1 ++ [Ob.box (etz x)]), Ob.box (wzz (.sl f (L.map etz) .full) d T U ow ep jo nx) :: (S1 ++ [Ob.box (etz x)])), ([true, false], Ob.box (wzz (.sl f (L.map etz) .full) d T U ow ep jo nx) :: (S1 ++ [Ob.box (etz x), .box [.sl (some true) [] .full, vi 0]]), Ob.box (wzz (.sl f (L.map etz) .full) d T U ow ep jo nx) :: (S1 ++ [Ob.box (etz x), .box [.sl (some true) [] .full, vi 0]]))] (by rfl) (by kernel_rfl) (rs := [14, 16, 18, 28]) (by rfl) (by first | (simp only [nf, nfS, Nat.beq] <;> rfl) | rfl) (fun base => ⟨
      ⟨rfl, rfl, by
        refine n_call0B rfl cf223 rfl (Eq.trans (by simp only [nl] <;> rfl) (by first | (simp only [nf, nfS, Nat.beq] <;> rfl) | rfl)) (by repeat (first | exact .nil | refine .cons ?_ ?_ | exact ren_ints | exact .lf (.val _) | exact .lf (lf_ints (.inl rfl)) | exact .bp ⟨rfl, rfl⟩ | exact .bp (.inl ⟨rfl, rfl⟩) | exact .bp (.inr ⟨rfl, rfl⟩) | exact ren_nil0 | exact .lf (lf_fnrp (lf_cons (.val _) lf_nil)) | exact .lf (.rp (lf_cons (.val _) lf_nil)) | exact .bs ⟨rfl, rfl⟩ | exact .lf (D.flat_lf rfl) | exact ren_map (f := spz) (fun _ => rfl) | exact .lf (lf_tz _) | exact ren_tz | exact .lf (.fn (fun d h => by cases h) (fun d h => by cases h)) | exact .lf (lf_fnrp (lf_rp1 (f := spz) (fun _ => rfl))) | exact .ro (by intro x hx; simp only [List.mem_cons, List.not_mem_nil, or_false] at hx; rcases hx with rfl | rfl <;> exact flats_lf rfl))) (hadd) (by first | exact .val _ | exact lf_ints (.inl rfl) | exact lf_ints (.inr rfl) | exact .any | exact lf_nil0 | exact lf_fnrp (lf_cons (.val _) lf_nil) | exact D.flat_lf rfl | exact lf_map (f := spz) (fun _ => rfl) (.inl rfl) | exact lf_tz _ | exact .tup (lf_cons (lf_tz _) (lf_cons (.val _) lf_nil)) | exact lf_fnrp (lf_rp1 (f := spz) (fun _ => rfl))) ?_
        exact AOps.nil ⟨rfl, rfl, rfl⟩⟩,
      ⟨rfl, rfl, by
        refine n_call0B rfl cf223 rfl (Eq.trans (by simp only [nl] <;> rfl) (by first | (simp only [nf, nfS, Nat.beq] <;> rfl) | rfl)) (by repeat (first | exact .nil | refine .cons ?_ ?_ | exact ren_ints | exact .lf (.val _) | exact .lf (lf_ints (.inl rfl)) | exact .bp ⟨rfl, rfl⟩ | exact .bp (.inl ⟨rfl, rfl⟩) | exact .bp (.inr ⟨rfl, rfl⟩) | exact ren_nil0 | exact .lf (lf_fnrp (lf_cons (.val _) lf_nil)) | exact .lf (.rp (lf_cons (.val _) lf_nil)) | exact .bs ⟨rfl, rfl⟩ | exact .lf (D.flat_lf rfl) | exact ren_map (f := spz) (fun _ => rfl) | exact .lf (lf_tz _) | exact ren_tz | exact .lf (.fn (fun d h => by cases h) (fun d h => by cases h)) | exact .lf (lf_fnrp (lf_rp1 (f := spz) (fun _ => rfl))) | exact .ro (by intro x hx; simp only [List.mem_cons, List.not_mem_nil, or_false] at hx; rcases hx with rfl | rfl <;> exact flats_lf rfl))) (hadd) (by first | exact .val _ | exact lf_ints (.inl rfl) | exact lf_ints (.inr rfl) | exact .any | exact lf_nil0 | exact lf_fnrp (lf_cons (.val _) lf_nil) | exact D.flat_lf rfl | exact lf_map (f := spz) (fun _ => rfl) (.inl rfl) | exact lf_tz _ | exact .tup (lf_cons (lf_tz _) (lf_cons (.val _) lf_nil)) | exact lf_fnrp (lf_rp1 (f := spz) (fun _ => rfl))) ?_
        exact AOps.nil ⟨rfl, rfl, rfl⟩⟩,
      trivial⟩) ?_
  refine Walk.cases [([false, false], Ob.box (wzz (.sl f (L.map etz) .full) d T U ow ep jo nx) :: (S1 ++ [Ob.box (etz x)]), Ob.box (wzz (.sl f (L.map etz) .full) d T U ow ep jo nx) :: (S1 ++ [Ob.box (etz x)])), ([true, false], Ob.box (wzz (.sl f (L.map etz) .full) d T U ow ep jo nx) :: (S1 ++ [Ob.box (etz x), .box [.sl (some true) [] .full, vi 0]]), Ob.box (wzz (.sl f (L.map etz) .full) d T U ow ep jo nx) :: (S1 ++ [Ob.box (etz x), .box [.sl (some true) [] .full, vi 0]]))] (by rfl) (by kernel_rfl) (rs := [29]) (by rfl) (by first | (simp only [nf, nfS, Nat.beq] <;> rfl) | rfl) (fun base => ⟨
      ⟨rfl, rfl, by
        refine n_move rfl (by first | (simp only [nf, nfS, Nat.beq] <;> rfl) | rfl) ?_
        exact AOps.nil ⟨rfl, rfl, rfl⟩⟩,
      ⟨rfl, rfl, by
        refine n_move rfl (by first | (simp only [nf, nfS, Nat.beq] <;> rfl) | rfl) ?_
        exact AOps.nil ⟨rfl, rfl, rfl⟩⟩,
      trivial⟩) ?_
  refine Walk.cases [([false, false], Ob.box (wzz (.sl f (L.map etz) .full) d T U ow ep jo nx) :: (S1 ++ [Ob.box (etz x)]), Ob.box (wzz (.sl f (L.map etz) .full) d T U ow ep jo nx) :: (S1 ++ [Ob.box (etz x)])), ([true, false], Ob.box (wzz (.sl f (L.map etz) .full) d T U ow ep jo nx) :: (S1 ++ [Ob.box (etz x), .box [.sl (some true) [] .full, vi 0]]), Ob.box (wzz (.sl f (L.map etz) .full) d T U ow ep jo nx) :: (S1 ++ [Ob.box (etz x), .box [.sl (some true) [] .full, vi 0]]))] (by rfl) (by kernel_rfl) (rs := [8]) (by rfl) (by first | (simp only [nf, nfS, Nat.beq] <;> rfl) | rfl) (fun base => ⟨
      ⟨rfl, rfl, by
        refine n_extract rfl (by first | (simp only [nf, nfS, Nat.beq] <;> rfl) | rfl) rfl ?_
        exact AOps.nil ⟨rfl, rfl, rfl⟩⟩,
      ⟨rfl, rfl, by
        refine n_extract rfl (by first | (simp only [nf, nfS, Nat.beq] <;> rfl) | rfl) rfl ?_
        exact AOps.nil ⟨rfl, rfl, rfl⟩⟩,
      trivial⟩) ?_
  refine Walk.cases [([false, false], Ob.box (wzz (.sl f (L.map etz) .full) d T U ow ep jo nx) :: (S1 ++ [Ob.box (etz x)]), Ob.box (wzz (.sl f (L.map etz) .full) d T U ow ep jo nx) :: (S1 ++ [Ob.box (etz x)])), ([true, false], Ob.box (wzz (.sl f (L.map etz) .full) d T U ow ep jo nx) :: (S1 ++ [Ob.box (etz x), .box [.sl (some true) [] .full, vi 0]]), Ob.box (wzz (.sl f (L.map etz) .full) d T U ow ep jo nx) :: (S1 ++ [Ob.box (etz x), .box [.sl (some true) [] .full, vi 0]])), ([true, true], Ob.box (wzz (.sl f (L.map etz) .full) d T U ow ep jo nx) :: (S1 ++ [Ob.box (etz x), Ob.box [.sl none (T'.l.map spz) .ro, vi T'.n]]), Ob.box (wzz (.sl f (L.map etz) .full) d T U ow ep jo nx) :: (S1 ++ [Ob.box (etz x), Ob.box [.sl none (T'.l.map spz) .ro, vi T'.n]]))] (by rfl) (by kernel_rfl) (rs := [8]) (by rfl) (by first | (simp only [nf, nfS, Nat.beq] <;> rfl) | rfl) (fun base => ⟨
      ⟨rfl, rfl, by
        refine n_extract rfl (by first | (simp only [nf, nfS, Nat.beq] <;> rfl) | rfl) rfl ?_
        exact AOps.nil ⟨rfl, rfl, rfl⟩⟩,
      ⟨rfl, rfl, by
        refine n_extract rfl (by first | (simp only [nf, nfS, Nat.beq] <;> rfl) | rfl) rfl ?_
        exact AOps.nil ⟨rfl, rfl, rfl⟩⟩,
      ⟨rfl, rfl, by
        refine n_extract rfl (by first | (simp only [nf, nfS, Nat.beq] <;> rfl) | rfl) rfl ?_
        exact AOps.nil ⟨rfl, rfl, rfl⟩⟩,
      trivial⟩) ?_
  refine Walk.cases [([false, false], Ob.box (wzz (.sl f (L.map etz) .full) d T U ow ep jo nx) :: (S1 ++ [Ob.box (etz x)]), Ob.box (wzz (.sl f (L.map etz) .full) d T U ow ep jo nx) :: (S1 ++ [Ob.box (etz x), .box [.sl (some true) [] .full, vi 0]]))] (by rfl) (by kernel_rfl) (rs := []) (by rfl) (by first | (simp only [nf, nfS, Nat.beq] <;> rfl) | rfl) (fun base => ⟨
      ⟨rfl, rfl, by
        refine n_alloc rfl zi188 rfl (by first | (simp only [nf, nfS, Nat.beq] <;> rfl) | rfl) (by first | (simp only [nf, nfS, Nat.beq] <;> rfl) | rfl) ?_
        exact AOps.nil ⟨rfl, rfl, rfl⟩⟩,
      trivial⟩) ?_
  refine Walk.cases (d := .any) [([true, false], Ob.box (wzz (.sl f (L.map etz) .full) d T U ow ep jo nx) :: (S1 ++ [Ob.box (etz x), .box [.sl (some true) [] .full, vi 0]]), Ob.box (wzz (.sl f (L.map etz) .full) d T U ow ep jo nx) :: (S1 ++ [Ob.box (etz x), Ob.box [.sl none (T'.l.map spz) .ro, vi T'.n]]))] (by rfl) (by kernel_rfl) (rs := [6, 30]) (by rfl) (by first | (simp only [nf, nfS, Nat.beq] <;> rfl) | rfl) (fun base => ⟨
      ⟨rfl, rfl, by
        refine n_store ti188 (by first | (simp only [nf, nfS, Nat.beq] <;> rfl) | rfl) (by first | (simp only [nf, nfS, Nat.beq] <;> rfl) | rfl) (by first | (simp only [nf, nfS, Nat.beq] <;> rfl) | rfl) rfl (by first | (simp only [nf, nfS, Nat.beq] <;> rfl) | rfl) rfl rfl rfl (by first | (simp only [nf, nfS, Nat.beq] <;> rfl) | rfl) ?_
        exact AOps.nil ⟨rfl, rfl, rfl⟩⟩,
      trivial⟩) ?_
  refine Walk.cases [([true, true], Ob.box (wzz (.sl f (L.map etz) .full) d T U ow ep jo nx) :: (S1 ++ [Ob.box (etz x), Ob.box [.sl none (T'.l.map spz) .ro, vi T'.n]]), Ob.box (wzz (.sl f (L.map etz) .full) d T U ow ep jo nx) :: (S1 ++ [Ob.box (etz x), Ob.box [.sl none (T'.l.map spz) .ro, vi T'.n]]))] (by rfl) (by kernel_rfl) (rs := [31]) (by rfl) (by first | (simp only [nf, nfS, Nat.beq] <;> rfl) | rfl) (fun base => ⟨
      ⟨rfl, rfl, by
        refine n_assign rfl (by first | (simp only [nf, nfS, Nat.beq] <;> rfl) | rfl) ?_
        exact AOps.nil ⟨rfl, rfl, rfl⟩⟩,
      trivial⟩) ?_
  refine Walk.done ?_
  refine AWP.seq ?_
  refine AWP.region ?_
  refine n_move rfl (by first | (simp only [nf, nfS, Nat.beq] <;> rfl) | rfl) ?_
  refine n_move rfl (by first | (simp only [nf, nfS, Nat.beq] <;> rfl) | rfl) ?_
  refine n_nilCheck rfl (by first | (simp only [nf, nfS, Nat.beq] <;> rfl) | rfl) rfl ?_
  refine n_fieldAddr rfl fd217_6 ti4 rfl (by first | (simp only [nf, nfS, Nat.beq] <;> rfl) | rfl) rfl (by first | (simp only [nf, nfS, Nat.beq] <;> rfl) | rfl) ?_
  refine n_load rfl ti4 (by first | (simp only [nf, nfS, Nat.beq] <;> rfl) | rfl) (by first | (simp only [nf, nfS, Nat.beq] <;> rfl) | rfl) rfl (by first | (simp only [nf, nfS, Nat.beq] <;> rfl) | rfl) ?_
  refine n_move rfl (by first | (simp only [nf, nfS, Nat.beq] <;> rfl) | rfl) ?_
  refine n_guard_yes rfl rfl rfl (by first | (simp only [nf, nfS, Nat.beq] <;> rfl) | rfl) rfl ?_
  refine n_move rfl (by first | (simp only [nf, nfS, Nat.beq] <;> rfl) | rfl) ?_
  refine n_guard_yes rfl rfl rfl (by first | (simp only [nf, nfS, Nat.beq] <;> rfl) | rfl) rfl ?_
  refine n_ibin rfl (by first | (simp only [nf, nfS, Nat.beq] <;> rfl) | rfl) (by first | (simp only [nf, nfS, Nat.beq] <;> rfl) | rfl) rfl ?_
  refine n_pick rfl (by first | (simp only [nf, nfS, Nat.beq] <;> rfl) | rfl) (by first | (simp only [nf, nfS, Nat.beq] <;> rfl) | rfl) ?_
  refine n_nilCheck rfl (by first | (simp only [nf, nfS, Nat.beq] <;> rfl) | rfl) rfl ?_
  refine n_fieldAddr rfl fd217_6 ti4 rfl (by first | (simp only [nf, nfS, Nat.beq] <;> rfl) | rfl) rfl (by first | (simp only [nf, nfS, Nat.beq] <;> rfl) | rfl) ?_
  refine n_store ti4 (by first | (simp only [nf, nfS, Nat.beq] <;> rfl) | rfl) (by first | (simp only [nf, nfS, Nat.beq] <;> rfl) | rfl) (by first | (simp only [nf, nfS, Nat.beq] <;> rfl) | rfl) rfl (by first | (simp only [nf, nfS, Nat.beq] <;> rfl) | rfl) rfl rfl rfl (by first | (simp only [nf, nfS, Nat.beq] <;> rfl) | rfl) ?_
  refine AOps.nil ?_
  refine AWP.seq ?_
  refine AWP.any1 6 (Ob.box (wzz (.sl f (L.map etz) .full) d T' U ow ep jo nx) :: (S1 ++ [Ob.box (etz x), Ob.box [.sl none (T'.l.map spz) .ro, vi T'.n]])) (by kernel_rfl) (by kernel_rfl) (by kernel_rfl) ?_
  refine Walk.ahead [6] (by rfl) (by kernel_rfl) (by rfl) (rs := [0]) (by rfl) (by first | (simp only [nf, nfS, Nat.beq] <;> rfl) | rfl) (fun base => by
      refine n_move rfl (by first | (simp only [nf, nfS, Nat.beq] <;> rfl) | rfl) ?_
      exact AOps.nil ⟨rfl, rfl, rfl⟩) ?_
  refine Walk.ahead [6] (by rfl) (by kernel_rfl) (by rfl) (rs := [1]) (by rfl) (by first | (simp only [nf, nfS, Nat.beq] <;> rfl) | rfl) (fun base => by
      refine n_move rfl (by first | (simp only [nf, nfS, Nat.beq] <;> rfl) | rfl) ?_
      exact AOps.nil ⟨rfl, rfl, rfl⟩) ?_
  refine Walk.ahead [6] (by rfl) (by kernel_rfl) (by rfl) (rs := [6]) (by rfl) (by first | (simp only [nf, nfS, Nat.beq] <;> rfl) | rfl) (fun base => by
      refine n_load rfl ti188 (by first | (simp only [nf, nfS, Nat.beq] <;> rfl) | rfl) (by first | (simp only [nf, nfS, Nat.beq] <;> rfl) | rfl) rfl (by first | (simp only [nf, nfS, Nat.beq] <;> rfl) | rfl) ?_
      exact AOps.nil ⟨rfl, rfl, rfl⟩) ?_
  refine Walk.ahead [4, 5, 6] (by rfl) (by kernel_rfl) (by rfl) (rs := [43]) (by rfl) (by first | (simp only [nf, nfS, Nat.beq] <;> rfl) | rfl) (fun base => by
      refine n_nilCheck rfl (by first | (simp only [nf, nfS, Nat.beq] <;> rfl) | rfl) rfl ?_
      exact AOps.nil ⟨rfl, rfl, rfl⟩) ?_
  refine Walk.ahead [5, 6] (by rfl) (by kernel_rfl) (by rfl) (rs := [46]) (by rfl) (by first | (simp only [nf, nfS, Nat.beq] <;> rfl) | rfl) (fun base => by
      refine n_fieldAddr rfl fd217_1 ti213 rfl (by first | (simp only [nf, nfS, Nat.beq] <;> rfl) | rfl) rfl (by first | (simp only [nf, nfS, Nat.beq] <;> rfl) | rfl) ?_
      exact AOps.nil ⟨rfl, rfl, rfl⟩) ?_
  refine Walk.ahead [6] (by rfl) (by kernel_rfl) (by rfl) (rs := [47, 44]) (by rfl) (by first | (simp only [nf, nfS, Nat.beq] <;> rfl) | rfl) (fun base => by
      refine n_arrAddr (q := 2) rfl Try.underlying213 ti188 (by first | (simp only [nf, nfS, Nat.beq] <;> rfl) | rfl) (by first | (simp only [nf, nfS, Nat.beq] <;> rfl) | rfl) (by decide) (by decide) rfl ?_
      exact AOps.nil ⟨rfl, rfl, rfl⟩) ?_
  refine Walk.writes (d := .any) (by rfl) (rs := [48, 45]) (by rfl) (by first | (simp only [nf, nfS, Nat.beq] <;> rfl) | rfl) (fun base => by
      refine n_store ti188 (by first | (simp only [nf, nfS, Nat.beq] <;> rfl) | rfl) (by first | (simp only [nf, nfS, Nat.beq] <;> rfl) | rfl) (by first | (simp only [nf, nfS, Nat.beq] <;> rfl) | rfl) rfl (by first | (simp only [nf, nfS, Nat.beq] <;> rfl) | rfl) rfl rfl rfl (by first | (simp only [nf, nfS, Nat.beq] <;> rfl) | rfl) ?_
      exact AOps.nil ⟨rfl, rfl, rfl⟩) ?_
  refine Walk.done ?_
  refine AWP.anyT [10, 14] (fun p => match p with | [false, false] => Ob.box (wzz (.sl f (L.map etz) .full) d T' U ow ep jo nx) :: (S1 ++ [Ob.box (etz x), Ob.box [.sl none (T'.l.map spz) .ro, vi T'.n]]) | [true, false] => Ob.box (wzz (.sl f (L.map etz) .full) d T' U ow ep jo nx) :: (S1 ++ [Ob.box (etz x), Ob.box [.sl none (T'.l.map spz) .ro, vi T'.n], Ob.row (L.length + 1) 3]) | [true, true] => Ob.box (wzz (.sl none ((L ++ [x]).map etz) (.own (S1.length + 2 + 1))) d T' U ow ep jo nx) :: (S1 ++ [Ob.box (etz x), Ob.box [.sl none (T'.l.map spz) .ro, vi T'.n], Ob.row (L.length + 1) 3]) | _ => []) (by kernel_rfl) (by kernel_rfl) rfl rfl ?_
  refine Walk.cases [([false, false], Ob.box (wzz (.sl f (L.map etz) .full) d T' U ow ep jo nx) :: (S1 ++ [Ob.box (etz x), Ob.box [.sl none (T'.l.map spz) .ro, vi T'.n]]), Ob.box (wzz (.sl f (L.map etz) .full) d T' U ow ep jo nx) :: (S1 ++ [Ob.box (etz x), Ob.box [.sl none (T'.l.map spz) .ro, vi T'.n]])), ([true, false], Ob.box (wzz (.sl f (L.map etz) .full) d T' U ow ep jo nx) :: (S1 ++ [Ob.box (etz x), Ob.box [.sl none (T'.l.map spz) .ro, vi T'.n], Ob.row (L.length + 1) 3]), Ob.box (wzz (.sl f (L.map etz) .full) d T' U ow ep jo nx) :: (S1 ++ [Ob.box (etz x), Ob.box [.sl none (T'.l.map spz) .ro, vi T'.n], Ob.row (L.length + 1) 3]))] (by rfl) (by kernel_rfl) (rs := [0]) (by rfl) (by first | (simp only [nf, nfS, Nat.beq] <;> rfl) | rfl) (fun base => ⟨
      ⟨rfl, rfl, by
        refine n_move rfl (by first | (simp only [nf, nfS, Nat.beq] <;> rfl) | rfl) ?_
        exact AOps.nil ⟨rfl, rfl, rfl⟩⟩,
      ⟨rfl, rfl, by
        refine n_move rfl (by first | (simp only [nf, nfS, Nat.beq] <;> rfl) | rfl) ?_
        exact AOps.nil ⟨rfl, rfl, rfl⟩⟩,
      trivial⟩) ?_
  refine Walk.cases [([false, false], Ob.box (wzz (.sl f (L.map etz) .full) d T' U ow ep jo nx) :: (S1 ++ [Ob.box (etz x), Ob.box [.sl none (T'.l.map spz) .ro, vi T'.n]]), Ob.box (wzz (.sl f (L.map etz) .full) d T' U ow ep jo nx) :: (S1 ++ [Ob.box (etz x), Ob.box [.sl none (T'.l.map spz) .ro, vi T'.n]])), ([true, false], Ob.box (wzz (.sl f (L.map etz) .full) d T' U ow ep jo nx) :: (S1 ++ [Ob.box (etz x), Ob.box [.sl none (T'.l.map spz) .ro, vi T'.n], Ob.row (L.length + 1) 3]), Ob.box (wzz (.sl f (L.map etz) .full) d T' U ow ep jo nx) :: (S1 ++ [Ob.box (etz x), Ob.box [.sl none (T'.l.map spz) .ro, vi T'.n], Ob.row (L.length + 1) 3]))] (by rfl) (by kernel_rfl) (rs := [1]) (by rfl) (by first | (simp only [nf, nfS, Nat.beq] <;> rfl) | rfl) (fun base => ⟨
      ⟨rfl, rfl, by
        refine n_move rfl (by first | (simp only [nf, nfS, Nat.beq] <;> rfl) | rfl) ?_
        exact AOps.nil ⟨rfl, rfl, rfl⟩⟩,
      ⟨rfl, rfl, by
        refine n_move rfl (by first | (simp only [nf, nfS, Nat.beq] <;> rfl) | rfl) ?_
        exact AOps.nil ⟨rfl, rfl, rfl⟩⟩,
      trivial⟩) ?_
  refine Walk.cases [([false, false], Ob.box (wzz (.sl f (L.map etz) .full) d T' U ow ep jo nx) :: (S1 ++ [Ob.box (etz x), Ob.box [.sl none (T'.l.map spz) .ro, vi T'.n]]), Ob.box (wzz (.sl f (L.map etz) .full) d T' U ow ep jo nx) :: (S1 ++ [Ob.box (etz x), Ob.box [.sl none (T'.l.map spz) .ro, vi T'.n]]))] (by rfl) (by kernel_rfl) (rs := [0]) (by rfl) (by first | (simp only [nf, nfS, Nat.beq] <;> rfl) | rfl) (fun base => ⟨
      ⟨rfl, rfl, by
        refine n_move rfl (by first | (simp only [nf, nfS, Nat.beq] <;> rfl) | rfl) ?_
        exact AOps.nil ⟨rfl, rfl, rfl⟩⟩,
      trivial⟩) ?_
  refine Walk.cases [([false, false], Ob.box (wzz (.sl f (L.map etz) .full) d T' U ow ep jo nx) :: (S1 ++ [Ob.box (etz x), Ob.box [.sl none (T'.l.map spz) .ro, vi T'.n]]), Ob.box (wzz (.sl f (L.map etz) .full) d T' U ow ep jo nx) :: (S1 ++ [Ob.box (etz x), Ob.box [.sl none (T'.l.map spz) .ro, vi T'.n]]))] (by rfl) (by kernel_rfl) (rs := [1]) (by rfl) (by first | (simp only [nf, nfS, Nat.beq] <;> rfl) | rfl) (fun base => ⟨
      ⟨rfl, rfl, by
        refine n_move rfl (by first | (simp only [nf, nfS, Nat.beq] <;> rfl) | rfl) ?_
        exact AOps.nil ⟨rfl, rfl, rfl⟩⟩,
      trivial⟩) ?_
  refine Walk.cases [([false, false], Ob.box (wzz (.sl f (L.map etz) .full) d T' U ow ep jo nx) :: (S1 ++ [Ob.box (etz x), Ob.box [.sl none (T'.l.map spz) .ro, vi T'.n]]), Ob.box (wzz (.sl f (L.map etz) .full) d T' U ow ep jo nx) :: (S1 ++ [Ob.box (etz x), Ob.box [.sl none (T'.l.map spz) .ro, vi T'.n]]))] (by rfl) (by kernel_rfl) (rs := [51]) (by rfl) (by first | (simp only [nf, nfS, Nat.beq] <;> rfl) | rfl) (fun base => ⟨
      ⟨rfl, rfl, by
        refine n_nilCheck rfl (by first | (simp only [nf, nfS, Nat.beq] <;> rfl) | rfl) rfl ?_
        exact AOps.nil ⟨rfl, rfl, rfl⟩⟩,
      trivial⟩) ?_
  refine Walk.cases [([false, false], Ob.box (wzz (.sl f (L.map etz) .full) d T' U ow ep jo nx) :: (S1 ++ [Ob.box (etz x), Ob.box [.sl none (T'.l.map spz) .ro, vi T'.n]]), Ob.box (wzz (.sl f (L.map etz) .full) d T' U ow ep jo nx) :: (S1 ++ [Ob.box (etz x), Ob.box [.sl none (T'.l.map spz) .ro, vi T'.n]]))] (by rfl) (by kernel_rfl) (rs := [53]) (by rfl) (by first | (simp only [nf, nfS, Nat.beq] <;> rfl) | rfl) (fun base => ⟨
      ⟨rfl, rfl, by
        refine n_fieldAddr rfl fd217_0 ti215 rfl (by first | (simp only [nf, nfS, Nat.beq] <;> rfl) | rfl) rfl (by first | (simp only [nf, nfS, Nat.beq] <;> rfl) | rfl) ?_
        exact AOps.nil ⟨rfl, rfl, rfl⟩⟩,
      trivial⟩) ?_
  refine Walk.cases [([false, false], Ob.box (wzz (.sl f (L.map etz) .full) d T' U ow ep jo nx) :: (S1 ++ [Ob.box (etz x), Ob.box [.sl none (T'.l.map spz) .ro, vi T'.n]]), Ob.box (wzz (.sl f (L.map etz) .full) d T' U ow ep jo nx) :: (S1 ++ [Ob.box (etz x), Ob.box [.sl none (T'.l.map spz) .ro, vi T'.n]]))] (by rfl) (by kernel_rfl) (rs := [54, 52]) (by rfl) (by first | (simp only [nf, nfS, Nat.beq] <;> rfl) | rfl) (fun base => ⟨
      ⟨rfl, rfl, by
        refine n_arrAddr (q := 0) rfl Try.underlying215 ti214 (by first | (simp only [nf, nfS, Nat.beq] <;> rfl) | rfl) (by first | (simp only [nf, nfS, Nat.beq] <;> rfl) | rfl) (by decide) (by decide) rfl ?_
        exact AOps.nil ⟨rfl, rfl, rfl⟩⟩,
      trivial⟩) ?_
  refine Walk.cases [([false, false], Ob.box (wzz (.sl f (L.map etz) .full) d T' U ow ep jo nx) :: (S1 ++ [Ob.box (etz x), Ob.box [.sl none (T'.l.map spz) .ro, vi T'.n]]), Ob.box (wzz (.sl f (L.map etz) .full) d T' U ow ep jo nx) :: (S1 ++ [Ob.box (etz x), Ob.box [.sl none (T'.l.map spz) .ro, vi T'.n]]))] (by rfl) (by kernel_rfl) (rs := [55]) (by rfl) (by first | (simp only [nf, nfS, Nat.beq] <;> rfl) | rfl) (fun base => ⟨
      ⟨rfl, rfl, by
        refine n_load rfl ti214 (by first | (simp only [nf, nfS, Nat.beq] <;> rfl) | rfl) (by first | (simp only [nf, nfS, Nat.beq] <;> rfl) | rfl) rfl (by first | (simp only [nf, nfS, Nat.beq] <;> rfl) | rfl) ?_
        exact AOps.nil ⟨rfl, rfl, rfl⟩⟩,
      trivial⟩) ?_
  refine Walk.cases [([false, false], Ob.box (wzz (.sl f (L.map etz) .full) d T' U ow ep jo nx) :: (S1 ++ [Ob.box (etz x), Ob.box [.sl none (T'.l.map spz) .ro, vi T'.n]]), Ob.box (wzz (.sl f (L.map etz) .full) d T' U ow ep jo nx) :: (S1 ++ [Ob.box (etz x), Ob.box [.sl none (T'.l.map spz) .ro, vi T'.n]]))] (by rfl) (by kernel_rfl) (rs := [5]) (by rfl) (by first | (simp only [nf, nfS, Nat.beq] <;> rfl) | rfl) (fun base => ⟨
      ⟨rfl, rfl, by
        refine n_load rfl ti224 (by first | (simp only [nf, nfS, Nat.beq] <;> rfl) | rfl) (by first | (simp only [nf, nfS, Nat.beq] <;> rfl) | rfl) rfl (by first | (simp only [nf, nfS, Nat.beq] <;> rfl) | rfl) ?_
        exact AOps.nil ⟨rfl, rfl, rfl⟩⟩,
      trivial⟩) ?_
  refine Walk.cases [([false, false], Ob.box (wzz (.sl f (L.map etz) .full) d T' U ow ep jo nx) :: (S1 ++ [Ob.box (etz x), Ob.box [.sl none (T'.l.map spz) .ro, vi T'.n]]), Ob.box (wzz (.sl f (L.map etz) .full) d T' U ow ep jo nx) :: (S1 ++ [Ob.box (etz x), Ob.box [.sl none (T'.l.map spz) .ro, vi T'.n]]))] (by rfl) (by kernel_rfl) (rs := [57]) (by rfl) (by first | (simp only [nf, nfS, Nat.beq] <;> rfl) | rfl) (fun base => ⟨
      ⟨rfl, rfl, by
        refine n_lit rfl Try.underlying214 ti224 zi224 rfl rfl (Eq.trans (by simp only [nl] <;> rfl) (by first | (simp only [nf, nfS, Nat.beq] <;> rfl) | rfl)) rfl (by first | (simp only [nf, nfS, Nat.beq] <;> rfl) | rfl) ?_
        exact AOps.nil ⟨rfl, rfl, rfl⟩⟩,
      trivial⟩) ?_
  refine Walk.cases [([false, false], Ob.box (wzz (.sl f (L.map etz) .full) d T' U ow ep jo nx) :: (S1 ++ [Ob.box (etz x), Ob.box [.sl none (T'.l.map spz) .ro, vi T'.n]]), Ob.box (wzz (.sl f (L.map etz) .full) d T' U ow ep jo nx) :: (S1 ++ [Ob.box (etz x), Ob.box [.sl none (T'.l.map spz) .ro, vi T'.n], Ob.row (L.length + 1) 3]))] (by rfl) (by kernel_rfl) (rs := [56, 58]) (by rfl) (by first | (simp only [nf, nfS, Nat.beq] <;> rfl) | rfl) (fun base => ⟨
      ⟨rfl, rfl, by
        refine n_append_full (zs := (L ++ [x]).map etz) (m := L.length + 1) (S' := Ob.box (wzz (.sl f (L.map etz) .full) d T' U ow ep jo nx) :: (S1 ++ [Ob.box (etz x), Ob.box [.sl none (T'.l.map spz) .ro, vi T'.n], Ob.row (L.length + 1) 3])) rfl Try.underlying214 Try.underlying214 ei224 (by first | (simp only [nf, nfS, Nat.beq] <;> rfl) | rfl) (by first | (simp only [nf, nfS, Nat.beq] <;> rfl) | rfl) et4 (by intro y hy; simp at hy; subst hy; rfl) (by simp) (by simp) (by omega) (by first | (simp only [nf, nfS, Nat.beq] <;> rfl) | rfl) (by simp) ?_
        exact AOps.nil ⟨rfl, rfl, rfl⟩⟩,
      trivial⟩) ?_
  refine Walk.cases [([false, false], Ob.box (wzz (.sl f (L.map etz) .full) d T' U ow ep jo nx) :: (S1 ++ [Ob.box (etz x), Ob.box [.sl none (T'.l.map spz) .ro, vi T'.n]]), Ob.box (wzz (.sl f (L.map etz) .full) d T' U ow ep jo nx) :: (S1 ++ [Ob.box (etz x), Ob.box [.sl none (T'.l.map spz) .ro, vi T'.n]])), ([true, false], Ob.box (wzz (.sl f (L.map etz) .full) d T' U ow ep jo nx) :: (S1 ++ [Ob.box (etz x), Ob.box [.sl none (T'.l.map spz) .ro, vi T'.n], Ob.row (L.length + 1) 3]), Ob.box (wzz (.sl f (L.map etz) .full) d T' U ow ep jo nx) :: (S1 ++ [Ob.box (etz x), Ob.box [.sl none (T'.l.map spz) .ro, vi T'.n], Ob.row (L.length + 1) 3]))] (by rfl) (by kernel_rfl) (rs := [49]) (by rfl) (by first | (simp only [nf, nfS, Nat.beq] <;> rfl) | rfl) (fun base => ⟨
      ⟨rfl, rfl, by
        refine n_nilCheck rfl (by first | (simp only [nf, nfS, Nat.beq] <;> rfl) | rfl) rfl ?_
        exact AOps.nil ⟨rfl, rfl, rfl⟩⟩,
      ⟨rfl, rfl, by
        refine n_nilCheck rfl (by first | (simp only [nf, nfS, Nat.beq] <;> rfl) | rfl) rfl ?_
        exact AOps.nil ⟨rfl, rfl, rfl⟩⟩,
      trivial⟩) ?_
  refine Walk.cases [([false, false], Ob.box (wzz (.sl f (L.map etz) .full) d T' U ow ep jo nx) :: (S1 ++ [Ob.box (etz x), Ob.box [.sl none (T'.l.map spz) .ro, vi T'.n]]), Ob.box (wzz (.sl f (L.map etz) .full) d T' U ow ep jo nx) :: (S1 ++ [Ob.box (etz x), Ob.box [.sl none (T'.l.map spz) .ro, vi T'.n]])), ([true, false], Ob.box (wzz (.sl f (L.map etz) .full) d T' U ow ep jo nx) :: (S1 ++ [Ob.box (etz x), Ob.box [.sl none (T'.l.map spz) .ro, vi T'.n], Ob.row (L.length + 1) 3]), Ob.box (wzz (.sl f (L.map etz) .full) d T' U ow ep jo nx) :: (S1 ++ [Ob.box (etz x), Ob.box [.sl none (T'.l.map spz) .ro, vi T'.n], Ob.row (L.length + 1) 3]))] (by rfl) (by kernel_rfl) (rs := [60]) (by rfl) (by first | (simp only [nf, nfS, Nat.beq] <;> rfl) | rfl) (fun base => ⟨
      ⟨rfl, rfl, by
        refine n_fieldAddr rfl fd217_0 ti215 rfl (by first | (simp only [nf, nfS, Nat.beq] <;> rfl) | rfl) rfl (by first | (simp only [nf, nfS, Nat.beq] <;> rfl) | rfl) ?_
        exact AOps.nil ⟨rfl, rfl, rfl⟩⟩,
      ⟨rfl, rfl, by
        refine n_fieldAddr rfl fd217_0 ti215 rfl (by first | (simp only [nf, nfS, Nat.beq] <;> rfl) | rfl) rfl (by first | (simp only [nf, nfS, Nat.beq] <;> rfl) | rfl) ?_
        exact AOps.nil ⟨rfl, rfl, rfl⟩⟩,
      trivial⟩) ?_
  refine Walk.cases [([true, false], Ob.box (wzz (.sl f (L.map etz) .full) d T' U ow ep jo nx) :: (S1 ++ [Ob.box (etz x), Ob.box [.sl none (T'.l.map spz) .ro, vi T'.n], Ob.row (L.length + 1) 3]), Ob.box (wzz (.sl f (L.map etz) .full) d T' U ow ep jo nx) :: (S1 ++ [Ob.box (etz x), Ob.box [.sl none (T'.l.map spz) .ro, vi T'.n], Ob.row (L.length + 1) 3]))] (by rfl) (by kernel_rfl) (rs := [61, 50]) (by rfl) (by first | (simp only [nf, nfS, Nat.beq] <;> rfl) | rfl) (fun base => ⟨
      ⟨rfl, rfl, by
        refine n_arrAddr (q := 0) rfl Try.underlying215 ti214 (by first | (simp only [nf, nfS, Nat.beq] <;> rfl) | rfl) (by first | (simp only [nf, nfS, Nat.beq] <;> rfl) | rfl) (by decide) (by decide) rfl ?_
        exact AOps.nil ⟨rfl, rfl, rfl⟩⟩,
      trivial⟩) ?_
  refine Walk.cases (d := .any) [([true, false], Ob.box (wzz (.sl f (L.map etz) .full) d T' U ow ep jo nx) :: (S1 ++ [Ob.box (etz x), Ob.box [.sl none (T'.l.map spz) .ro, vi T'.n], Ob.row (L.length + 1) 3]), Ob.box (wzz (.sl none ((L ++ [x]).map etz) (.own (S1.length + 2 + 1))) d T' U ow ep jo nx) :: (S1 ++ [Ob.box (etz x), Ob.box [.sl none (T'.l.map spz) .ro, vi T'.n], Ob.row (L.length + 1) 3]))] (by rfl) (by kernel_rfl) (rs := [62, 59]) (by rfl) (by first | (simp only [nf, nfS, Nat.beq] <;> rfl) | rfl) (fun base => ⟨
      ⟨rfl, rfl, by
        refine n_store ti214 (by first | (simp only [nf, nfS, Nat.beq] <;> rfl) | rfl) (by first | (simp only [nf, nfS, Nat.beq] <;> rfl) | rfl) (by first | (simp only [nf, nfS, Nat.beq] <;> rfl) | rfl) rfl (by first | (simp only [nf, nfS, Nat.beq] <;> rfl) | rfl) rfl rfl rfl (by first | (simp only [nf, nfS, Nat.beq] <;> rfl) | rfl) ?_
        exact AOps.nil ⟨rfl, rfl, rfl⟩⟩,
      trivial⟩) ?_
  refine Walk.done ?_
  refine finK_normal .nil (by first | (simp only [nf, nfS, Nat.beq] <;> rfl) | rfl) ?_
  exact hK _ (S1.length + 2) (kept_full)

set_option maxHeartbeats 2000000 in
theorem put_1own (d : D) (U T T' : Tb) (ow ep : Int) (jo : Bool) (nx : Int) (f : Option Bool) (L : List Et) (x : Et) (S1 : List Ob) (i : Nat) (hr : S1[i]? = some (.row L.length 3)) (K : D → List Ob → Prop) (hL : L.length ≤ 1000) (hadd : Does Try.prog 223 [tz T, vi x.e, vi x.r, vi (100 * 1 + (L.length : Int))] [] (.tup [tz T', vi 0]) []) (hK : ∀ S2 j, Kept S1 S2 (.own (i + 1)) j (L.length + 1) → K (.tup []) (Ob.box (wzz d (.sl none ((L ++ [x]).map etz) (.own (j + 1))) U T' ow ep jo nx) :: S2)) : DoesK Try.prog 244 [.bp 0 0, vi 1, .agg (etz x)] (Ob.box (wzz d (.sl f (L.map etz) (.own (i + 1))) U T ow ep jo nx) :: S1) K := by
  refine DoesK.of_body (rvs := []) Try.func244 rfl rfl rfl rfl ?_
  refine AWP.seq ?_
  refine AWP.region ?_
  refine n_box rfl (by first | (simp only [nf, nfS, Nat.beq] <;> rfl) | rfl) rfl rfl (by first | (simp only [nf, nfS, Nat.beq] <;> rfl) | rfl) (by first | (simp only [nf, nfS, Nat.beq] <;> rfl) | rfl) ?_
  refine AOps.nil ?_
  refine AWP.seq ?_
  refine AWP.anyT [24, 25] (fun p => match p with | [false, false] => Ob.box (wzz d (.sl f (L.map etz) (.own (i + 1))) U T ow ep jo nx) :: (S1 ++ [Ob.box (etz x)]) | [true, false] => Ob.box (wzz d (.sl f (L.map etz) (.own (i + 1))) U T ow ep jo nx) :: (S1 ++ [Ob.box (etz x), .box [.sl (some true) [] .full, vi 0]]) | [true, true] => Ob.box (wzz d (.sl f (L.map etz) (.own (i + 1))) U T ow ep jo nx) :: (S1 ++ [Ob.box (etz x), Ob.box [.sl none (T'.l.map spz) .ro, vi T'.n]]) | _ => []) (by kernel_rfl) (by kernel_rfl) rfl rfl ?_
  refine Walk.cases [([false, false], Ob.box (wzz d (.sl f (L.map etz) (.own (i + 1))) U T ow ep jo nx) :: (S1 ++ [Ob.box (etz x)]), Ob.box (wzz d (.sl f (L.map etz) (.own (i + 1))) U T ow ep jo nx) :: (S1 ++ [Ob.box (etz x)])), ([true, false], Ob.box (wzz d (.sl f (L.map etz) (.own (i + 1))) U T ow ep jo nx) :: (S1 ++ [Ob.box (etz x), .box [.sl (some true) [] .full, vi 0]]), Ob.box (wzz d (.sl f (L.map etz) (.own (i + 1))) U T ow ep jo nx) :: (S1 ++ [Ob.box (etz x), .box [.sl (some true) [] .full, vi 0]]))] (by rfl) (by kernel_rfl) (rs := [0]) (by rfl) (by first | (simp only [nf, nfS, Nat.beq] <;> rfl) | rfl) (fun base => ⟨
      ⟨rfl, rfl, by
        refine n_move rfl (by first | (simp only [nf, nfS, Nat.beq] <;> rfl) | rfl) ?_
        exact AOps.nil ⟨rfl, rfl, rfl⟩⟩,
      ⟨rfl, rfl, by
        refine n_move rfl (by first | (simp only [nf, nfS, Nat.beq] <;> rfl) | rfl) ?_
        exact AOps.nil ⟨rfl, rfl, rfl⟩⟩,
      trivial⟩) ?_
  refine Walk.cases [([false, false], Ob.box (wzz d (.sl f (L.map etz) (.own (i + 1))) U T ow ep jo nx) :: (S1 ++ [Ob.box (etz x)]), Ob.box (wzz d (.sl f (L.map etz) (.own (i + 1))) U T ow ep jo nx) :: (S1 ++ [Ob.box (etz x)])), ([true, false], Ob.box (wzz d (.sl f (L.map etz) (.own (i + 1))) U T ow ep jo nx) :: (S1 ++ [Ob.box (etz x), .box [.sl (some true) [] .full, vi 0]]), Ob.box (wzz d (.sl f (L.map etz) (.own (i + 1))) U T ow ep jo nx) :: (S1 ++ [Ob.box (etz x), .box [.sl (some true) [] .full, vi 0]]))] (by rfl) (by kernel_rfl) (rs := [1]) (by rfl) (by first | (simp only [nf, nfS, Nat.beq] <;> rfl) | rfl) (fun base => ⟨
      ⟨rfl, rfl, by
        refine n_move rfl (by first | (simp only [nf, nfS, Nat.beq] <;> rfl) | rfl) ?_
        exact AOps.nil ⟨rfl, rfl, rfl⟩⟩,
      ⟨rfl, rfl, by
        refine n_move rfl (by first | (simp only [nf, nfS, Nat.beq] <;> rfl) | rfl) ?_
        exact AOps.nil ⟨rfl, rfl, rfl⟩⟩,
      trivial⟩) ?_
  refine Walk.cases [([false, false], Ob.box (wzz d (.sl f (L.map etz) (.own (i + 1))) U T ow ep jo nx) :: (S1 ++ [Ob.box (etz x)]), Ob.box (wzz d (.sl f (L.map etz) (.own (i + 1))) U T ow ep jo nx) :: (S1 ++ [Ob.box (etz x)])), ([true, false], Ob.box (wzz d (.sl f (L.map etz) (.own (i + 1))) U T ow ep jo nx) :: (S1 ++ [Ob.box (etz x), .box [.sl (some true) [] .full, vi 0]]), Ob.box (wzz d (.sl f (L.map etz) (.own (i + 1))) U T ow ep jo nx) :: (S1 ++ [Ob.box (etz x), .box [.sl (some true) [] .full, vi 0]]))] (by rfl) (by kernel_rfl) (rs := [9]) (by rfl) (by first | (simp only [nf, nfS, Nat.beq] <;> rfl) | rfl) (fun base => ⟨
      ⟨rfl, rfl, by
        refine n_nilCheck rfl (by first | (simp only [nf, nfS, Nat.beq] <;> rfl) | rfl) rfl ?_
        exact AOps.nil ⟨rfl, rfl, rfl⟩⟩,
      ⟨rfl, rfl, by
        refine n_nilCheck rfl (by first | (simp only [nf, nfS, Nat.beq] <;> rfl) | rfl) rfl ?_
        exact AOps.nil ⟨rfl, rfl, rfl⟩⟩,
      trivial⟩) ?_
  refine Walk.cases [([false, false], Ob.box (wzz d (.sl f (L.map etz) (.own (i + 1))) U T ow ep jo nx) :: (S1 ++ [Ob.box (etz x)]), Ob.box (wzz d (.sl f (L.map etz) (.own (i + 1))) U T ow ep jo nx) :: (S1 ++ [Ob.box (etz x)])), ([true, false], Ob.box (wzz d (.sl f (L.map etz) (.own (i + 1))) U T ow ep jo nx) :: (S1 ++ [Ob.box (etz x), .box [.sl (some true) [] .full, vi 0]]), Ob.box (wzz d (.sl f (L.map etz) (.own (i + 1))) U T ow ep jo nx) :: (S1 ++ [Ob.box (etz x), .box [.sl (some true) [] .full, vi 0]]))] (by rfl) (by kernel_rfl) (rs := [11]) (by rfl) (by first | (simp only [nf, nfS, Nat.beq] <;> rfl) | rfl) (fun base => ⟨
      ⟨rfl, rfl, by
        refine n_fieldAddr rfl fd217_1 ti213 rfl (by first | (simp only [nf, nfS, Nat.beq] <;> rfl) | rfl) rfl (by first | (simp only [nf, nfS, Nat.beq] <;> rfl) | rfl) ?_
        exact AOps.nil ⟨rfl, rfl, rfl⟩⟩,
      ⟨rfl, rfl, by
        refine n_fieldAddr rfl fd217_1 ti213 rfl (by first | (simp only [nf, nfS, Nat.beq] <;> rfl) | rfl) rfl (by first | (simp only [nf, nfS, Nat.beq] <;> rfl) | rfl) ?_
        exact AOps.nil ⟨rfl, rfl, rfl⟩⟩,
      trivial⟩) ?_
  refine Walk.cases [([false, false], Ob.box (wzz d (.sl f (L.map etz) (.own (i + 1))) U T ow ep jo nx) :: (S1 ++ [Ob.box (etz x)]), Ob.box (wzz d (.sl f (L.map etz) (.own (i + 1))) U T ow ep jo nx) :: (S1 ++ [Ob.box (etz x)])), ([true, false], Ob.box (wzz d (.sl f (L.map etz) (.own (i + 1))) U T ow ep jo nx) :: (S1 ++ [Ob.box (etz x), .box [.sl (some true) [] .full, vi 0]]), Ob.box (wzz d (.sl f (L.map etz) (.own (i + 1))) U T ow ep jo nx) :: (S1 ++ [Ob.box (etz x), .box [.sl (some true) [] .full, vi 0]]))] (by rfl) (by kernel_rfl) (rs := [12, 10]) (by rfl) (by first | (simp only [nf, nfS, Nat.beq] <;> rfl) | rfl) (fun base => ⟨
      ⟨rfl, rfl, by
        refine n_arrAddr (q := 4) rfl Try.underlying213 ti188 (by first | (simp only [nf, nfS, Nat.beq] <;> rfl) | rfl) (by first | (simp only [nf, nfS, Nat.beq] <;> rfl) | rfl) (by decide) (by decide) rfl ?_
        exact AOps.nil ⟨rfl, rfl, rfl⟩⟩,
      ⟨rfl, rfl, by
        refine n_arrAddr (q := 4) rfl Try.underlying213 ti188 (by first | (simp only [nf, nfS, Nat.beq] <;> rfl) | rfl) (by first | (simp only [nf, nfS, Nat.beq] <;> rfl) | rfl) (by decide) (by decide) rfl ?_
        exact AOps.nil ⟨rfl, rfl, rfl⟩⟩,
      trivial⟩) ?_
  refine Walk.cases [([false, false], Ob.box (wzz d (.sl f (L.map etz) (.own (i + 1))) U T ow ep jo nx) :: (S1 ++ [Ob.box (etz x)]), Ob.box (wzz d (.sl f (L.map etz) (.own (i + 1))) U T ow ep jo nx) :: (S1 ++ [Ob.box (etz x)])), ([true, false], Ob.box (wzz d (.sl f (L.map etz) (.own (i + 1))) U T ow ep jo nx) :: (S1 ++ [Ob.box (etz x), .box [.sl (some true) [] .full, vi 0]]), Ob.box (wzz d (.sl f (L.map etz) (.own (i + 1))) U T ow ep jo nx) :: (S1 ++ [Ob.box (etz x), .box [.sl (some true) [] .full, vi 0]]))] (by rfl) (by kernel_rfl) (rs := [13]) (by rfl) (by first | (simp only [nf, nfS, Nat.beq] <;> rfl) | rfl) (fun base => ⟨
      ⟨rfl, rfl, by
        refine n_load rfl ti188 (by first | (simp only [nf, nfS, Nat.beq] <;> rfl) | rfl) (by first | (simp only [nf, nfS, Nat.beq] <;> rfl) | rfl) rfl (by first | (simp only [nf, nfS, Nat.beq] <;> rfl) | rfl) ?_
        exact AOps.nil ⟨rfl, rfl, rfl⟩⟩,
      ⟨rfl, rfl, by
        refine n_load rfl ti188 (by first | (simp only [nf, nfS, Nat.beq] <;> rfl) | rfl) (by first | (simp only [nf, nfS, Nat.beq] <;> rfl) | rfl) rfl (by first | (simp only [nf, nfS, Nat.beq] <;> rfl) | rfl) ?_
        exact AOps.nil ⟨rfl, rfl, rfl⟩⟩,
      trivial⟩) ?_
  refine Walk.cases [([false, false], Ob.box (wzz d (.sl f (L.map etz) (.own (i + 1))) U T ow ep jo nx) :: (S1 ++ [Ob.box (etz x)]), Ob.box (wzz d (.sl f (L.map etz) (.own (i + 1))) U T ow ep jo nx) :: (S1 ++ [Ob.box (etz x)])), ([true, false], Ob.box (wzz d (.sl f (L.map etz) (.own (i + 1))) U T ow ep jo nx) :: (S1 ++ [Ob.box (etz x), .box [.sl (some true) [] .full, vi 0]]), Ob.box (wzz d (.sl f (L.map etz) (.own (i + 1))) U T ow ep jo nx) :: (S1 ++ [Ob.box (etz x), .box [.sl (some true) [] .full, vi 0]]))] (by rfl) (by kernel_rfl) (rs := [5]) (by rfl) (by first | (simp only [nf, nfS, Nat.beq] <;> rfl) | rfl) (fun base => ⟨
      ⟨rfl, rfl, by
        refine n_fieldAddr rfl fd224_1 ti2 rfl (by first | (simp only [nf, nfS, Nat.beq] <;> rfl) | rfl) rfl (by first | (simp only [nf, nfS, Nat.beq] <;> rfl) | rfl) ?_
        exact AOps.nil ⟨rfl, rfl, rfl⟩⟩,
      ⟨rfl, rfl, by
        refine n_fieldAddr rfl fd224_1 ti2 rfl (by first | (simp only [nf, nfS, Nat.beq] <;> rfl) | rfl) rfl (by first | (simp only [nf, nfS, Nat.beq] <;> rfl) | rfl) ?_
        exact AOps.nil ⟨rfl, rfl, rfl⟩⟩,
      trivial⟩) ?_
  refine Walk.cases [([false, false], Ob.box (wzz d (.sl f (L.map etz) (.own (i + 1))) U T ow ep jo nx) :: (S1 ++ [Ob.box (etz x)]), Ob.box (wzz d (.sl f (L.map etz) (.own (i + 1))) U T ow ep jo nx) :: (S1 ++ [Ob.box (etz x)])), ([true, false], Ob.box (wzz d (.sl f (L.map etz) (.own (i + 1))) U T ow ep jo nx) :: (S1 ++ [Ob.box (etz x), .box [.sl (some true) [] .full, vi 0]]), Ob.box (wzz d (.sl f (L.map etz) (.own (i + 1))) U T ow ep jo nx) :: (S1 ++ [Ob.box (etz x), .box [.sl (some true) [] .full, vi 0]]))] (by rfl) (by kernel_rfl) (rs := [15]) (by rfl) (by first | (simp only [nf, nfS, Nat.beq] <;> rfl) | rfl) (fun base => ⟨
      ⟨rfl, rfl, by
        refine n_load rfl ti2 (by first | (simp only [nf, nfS, Nat.beq] <;> rfl) | rfl) (by first | (simp only [nf, nfS, Nat.beq] <;> rfl) | rfl) rfl (by first | (simp only [nf, nfS, Nat.beq] <;> rfl) | rfl) ?_
        exact AOps.nil ⟨rfl, rfl, rfl⟩⟩,
      ⟨rfl, rfl, by
        refine n_load rfl ti2 (by first | (simp only [nf, nfS, Nat.beq] <;> rfl) | rfl) (by first | (simp only [nf, nfS, Nat.beq] <;> rfl) | rfl) rfl (by first | (simp only [nf, nfS, Nat.beq] <;> rfl) | rfl) ?_
        exact AOps.nil ⟨rfl, rfl, rfl⟩⟩,
      trivial⟩) ?_
  refine Walk.cases [([false, false], Ob.box (wzz d (.sl f (L.map etz) (.own (i + 1))) U T ow ep jo nx) :: (S1 ++ [Ob.box (etz x)]), Ob.box (wzz d (.sl f (L.map etz) (.own (i + 1))) U T ow ep jo nx) :: (S1 ++ [Ob.box (etz x)])), ([true, false], Ob.box (wzz d (.sl f (L.map etz) (.own (i + 1))) U T ow ep jo nx) :: (S1 ++ [Ob.box (etz x), .box [.sl (some true) [] .full, vi 0]]), Ob.box (wzz d (.sl f (L.map etz) (.own (i + 1))) U T ow ep jo nx) :: (S1 ++ [Ob.box (etz x), .box [.sl (some true) [] .full, vi 0]]))] (by rfl) (by kernel_rfl) (rs := [5]) (by rfl) (by first | (simp only [nf, nfS, Nat.beq] <;> rfl) | rfl) (fun base => ⟨
      ⟨rfl, rfl, by
        refine n_fieldAddr rfl fd224_2 ti3 rfl (by first | (simp only [nf, nfS, Nat.beq] <;> rfl) | rfl) rfl (by first | (simp only [nf, nfS, Nat.beq] <;> rfl) | rfl) ?_
        exact AOps.nil ⟨rfl, rfl, rfl⟩⟩,
      ⟨rfl, rfl, by
        refine n_fieldAddr rfl fd224_2 ti3 rfl (by first | (simp only [nf, nfS, Nat.beq] <;> rfl) | rfl) rfl (by first | (simp only [nf, nfS, Nat.beq] <;> rfl) | rfl) ?_
        exact AOps.nil ⟨rfl, rfl, rfl⟩⟩,
      trivial⟩) ?_
  refine Walk.cases [([false, false], Ob.box (wzz d (.sl f (L.map etz) (.own (i + 1))) U T ow ep jo nx) :: (S1 ++ [Ob.box (etz x)]), Ob.box (wzz d (.sl f (L.map etz) (.own (i + 1))) U T ow ep jo nx) :: (S1 ++ [Ob.box (etz x)])), ([true, false], Ob.box (wzz d (.sl f (L.map etz) (.own (i + 1))) U T ow ep jo nx) :: (S1 ++ [Ob.box (etz x), .box [.sl (some true) [] .full, vi 0]]), Ob.box (wzz d (.sl f (L.map etz) (.own (i + 1))) U T ow ep jo nx) :: (S1 ++ [Ob.box (etz x), .box [.sl (some true) [] .full, vi 0]]))] (by rfl) (by kernel_rfl) (rs := [17]) (by rfl) (by first | (simp only [nf, nfS, Nat.beq] <;> rfl) | rfl) (fun base => ⟨
      ⟨rfl, rfl, by
        refine n_load rfl ti3 (by first | (simp only [nf, nfS, Nat.beq] <;> rfl) | rfl) (by first | (simp only [nf, nfS, Nat.beq] <;> rfl) | rfl) rfl (by first | (simp only [nf, nfS, Nat.beq] <;> rfl) | rfl) ?_
        exact AOps.nil ⟨rfl, rfl, rfl⟩⟩,
      ⟨rfl, rfl, by
        refine n_load rfl ti3 (by first | (simp only [nf, nfS, Nat.beq] <;> rfl) | rfl) (by first | (simp only [nf, nfS, Nat.beq] <;> rfl) | rfl) rfl (by first | (simp only [nf, nfS, Nat.beq] <;> rfl) | rfl) ?_
        exact AOps.nil ⟨rfl, rfl, rfl⟩⟩,
      trivial⟩) ?_
  refine Walk.cases [([false, false], Ob.box (wzz d (.sl f (L.map etz) (.own (i + 1))) U T ow ep jo nx) :: (S1 ++ [Ob.box (etz x)]), Ob.box (wzz d (.sl f (L.map etz) (.own (i + 1))) U T ow ep jo nx) :: (S1 ++ [Ob.box (etz x)])), ([true, false], Ob.box (wzz d (.sl f (L.map etz) (.own (i + 1))) U T ow ep jo nx) :: (S1 ++ [Ob.box (etz x), .box [.sl (some true) [] .full, vi 0]]), Ob.box (wzz d (.sl f (L.map etz) (.own (i + 1))) U T ow ep jo nx) :: (S1 ++ [Ob.box (etz x), .box [.sl (some true) [] .full, vi 0]]))] (by rfl) (by kernel_rfl) (rs := [1]) (by rfl) (by first | (simp only [nf, nfS, Nat.beq] <;> rfl) | rfl) (fun base => ⟨
      ⟨rfl, rfl, by
        refine n_move rfl (by first | (simp only [nf, nfS, Nat.beq] <;> rfl) | rfl) ?_
        exact AOps.nil ⟨rfl, rfl, rfl⟩⟩,
      ⟨rfl, rfl, by
        refine n_move rfl (by first | (simp only [nf, nfS, Nat.beq] <;> rfl) | rfl) ?_
        exact AOps.nil ⟨rfl, rfl, rfl⟩⟩,
      trivial⟩) ?_
  refine Walk.cases [([false, false], Ob.box (wzz d (.sl f (L.map etz) (.own (i + 1))) U T ow ep jo nx) :: (S1 ++ [Ob.box (etz x)]), Ob.box (wzz d (.sl f (L.map etz) (.own (i + 1))) U T ow ep jo nx) :: (S1 ++ [Ob.box (etz x)])), ([true, false], Ob.box (wzz d (.sl f (L.map etz) (.own (i + 1))) U T ow ep jo nx) :: (S1 ++ [Ob.box (etz x), .box [.sl (some true) [] .full, vi 0]]), Ob.box (wzz d (.sl f (L.map etz) (.own (i + 1))) U T ow ep jo nx) :: (S1 ++ [Ob.box (etz x), .box [.sl (some true) [] .full, vi 0]]))] (by rfl) (by kernel_rfl) (rs := [19]) (by rfl) (by first | (simp only [nf, nfS, Nat.beq] <;> rfl) | rfl) (fun base => ⟨
      ⟨rfl, rfl, by
        refine n_imul (c := 100 * 1) rfl (by first | (simp only [nf, nfS, Nat.beq] <;> rfl) | rfl) (by first | (simp only [nf, nfS, Nat.beq] <;> rfl) | rfl) (by omega) (by omega) (by omega) ?_
        exact AOps.nil ⟨rfl, rfl, rfl⟩⟩,
      ⟨rfl, rfl, by
        refine n_imul (c := 100 * 1) rfl (by first | (simp only [nf, nfS, Nat.beq] <;> rfl) | rfl) (by first | (simp only [nf, nfS, Nat.beq] <;> rfl) | rfl) (by omega) (by omega) (by omega) ?_
        exact AOps.nil ⟨rfl, rfl, rfl⟩⟩,
      trivial⟩) ?_
  refine Walk.cases [([false, false], Ob.box (wzz d (.sl f (L.map etz) (.own (i + 1))) U T ow ep jo nx) :: (S1 ++ [Ob.box (etz x)]), Ob.box (wzz d (.sl f (L.map etz) (.own (i + 1))) U T ow ep jo nx) :: (S1 ++ [Ob.box (etz x)])), ([true, false], Ob.box (wzz d (.sl f (L.map etz) (.own (i + 1))) U T ow ep jo nx) :: (S1 ++ [Ob.box (etz x), .box [.sl (some true) [] .full, vi 0]]), Ob.box (wzz d (.sl f (L.map etz) (.own (i + 1))) U T ow ep jo nx) :: (S1 ++ [Ob.box (etz x), .box [.sl (some true) [] .full, vi 0]]))] (by rfl) (by kernel_rfl) (rs := [0]) (by rfl) (by first | (simp only [nf, nfS, Nat.beq] <;> rfl) | rfl) (fun base => ⟨
      ⟨rfl, rfl, by
        refine n_move rfl (by first | (simp only [nf, nfS, Nat.beq] <;> rfl) | rfl) ?_
        exact AOps.nil ⟨rfl, rfl, rfl⟩⟩,
      ⟨rfl, rfl, by
        refine n_move rfl (by first | (simp only [nf, nfS, Nat.beq] <;> rfl) | rfl) ?_
        exact AOps.nil ⟨rfl, rfl, rfl⟩⟩,
      trivial⟩) ?_
  refine Walk.cases [([false, false], Ob.box (wzz d (.sl f (L.map etz) (.own (i + 1))) U T ow ep jo nx) :: (S1 ++ [Ob.box (etz x)]), Ob.box (wzz d (.sl f (L.map etz) (.own (i + 1))) U T ow ep jo nx) :: (S1 ++ [Ob.box (etz x)])), ([true, false], Ob.box (wzz d (.sl f (L.map etz) (.own (i + 1))) U T ow ep jo nx) :: (S1 ++ [Ob.box (etz x), .box [.sl (some true) [] .full, vi 0]]), Ob.box (wzz d (.sl f (L.map etz) (.own (i + 1))) U T ow ep jo nx) :: (S1 ++ [Ob.box (etz x), .box [.sl (some true) [] .full, vi 0]]))] (by rfl) (by kernel_rfl) (rs := [1]) (by rfl) (by first | (simp only [nf, nfS, Nat.beq] <;> rfl) | rfl) (fun base => ⟨
      ⟨rfl, rfl, by
        refine n_move rfl (by first | (simp only [nf, nfS, Nat.beq] <;> rfl) | rfl) ?_
        exact AOps.nil ⟨rfl, rfl, rfl⟩⟩,
      ⟨rfl, rfl, by
        refine n_move rfl (by first | (simp only [nf, nfS, Nat.beq] <;> rfl) | rfl) ?_
        exact AOps.nil ⟨rfl, rfl, rfl⟩⟩,
      trivial⟩) ?_
  refine Walk.cases [([false, false], Ob.box (wzz d (.sl f (L.map etz) (.own (i + 1))) U T ow ep jo nx) :: (S1 ++ [Ob.box (etz x)]), Ob.box (wzz d (.sl f (L.map etz) (.own (i + 1))) U T ow ep jo nx) :: (S1 ++ [Ob.box (etz x)])), ([true, false], Ob.box (wzz d (.sl f (L.map etz) (.own (i + 1))) U T ow ep jo nx) :: (S1 ++ [Ob.box (etz x), .box [.sl (some true) [] .full, vi 0]]), Ob.box (wzz d (.sl f (L.map etz) (.own (i + 1))) U T ow ep jo nx) :: (S1 ++ [Ob.box (etz x), .box [.sl (some true) [] .full, vi 0]]))] (by rfl) (by kernel_rfl) (rs := [21]) (by rfl) (by first | (simp only [nf, nfS, Nat.beq] <;> rfl) | rfl) (fun base => ⟨
      ⟨rfl, rfl, by
        refine n_nilCheck rfl (by first | (simp only [nf, nfS, Nat.beq] <;> rfl) | rfl) rfl ?_
        exact AOps.nil ⟨rfl, rfl, rfl⟩⟩,
      ⟨rfl, rfl, by
        refine n_nilCheck rfl (by first | (simp only [nf, nfS, Nat.beq] <;> rfl) | rfl) rfl ?_
        exact AOps.nil ⟨rfl, rfl, rfl⟩⟩,
      trivial⟩) ?_
  refine Walk.cases [([false, false], Ob.box (wzz d (.sl f (L.map etz) (.own (i + 1))) U T ow ep jo nx) :: (S1 ++ [Ob.box (etz x)]), Ob.box (wzz d (.sl f (L.map etz) (.own (i + 1))) U T ow ep jo nx) :: (S1 ++ [Ob.box (etz x)])), ([true, false], Ob.box (wzz d (.sl f (L.map etz) (.own (i + 1))) U T ow ep jo nx) :: (S1 ++ [Ob.box (etz x), .box [.sl (some true) [] .full, vi 0]]), Ob.box (wzz d (.sl f (L.map etz) (.own (i + 1))) U T ow ep jo nx) :: (S1 ++ [Ob.box (etz x), .box [.sl (some true) [] .full, vi 0]]))] (by rfl) (by kernel_rfl) (rs := [23]) (by rfl) (by first | (simp only [nf, nfS, Nat.beq] <;> rfl) | rfl) (fun base => ⟨
      ⟨rfl, rfl, by
        refine n_fieldAddr rfl fd217_0 ti215 rfl (by first | (simp only [nf, nfS, Nat.beq] <;> rfl) | rfl) rfl (by first | (simp only [nf, nfS, Nat.beq] <;> rfl) | rfl) ?_
        exact AOps.nil ⟨rfl, rfl, rfl⟩⟩,
      ⟨rfl, rfl, by
        refine n_fieldAddr rfl fd217_0 ti215 rfl (by first | (simp only [nf, nfS, Nat.beq] <;> rfl) | rfl) rfl (by first | (simp only [nf, nfS, Nat.beq] <;> rfl) | rfl) ?_
        exact AOps.nil ⟨rfl, rfl, rfl⟩⟩,
      trivial⟩) ?_
  refine Walk.cases [([false, false], Ob.box (wzz d (.sl f (L.map etz) (.own (i + 1))) U T ow ep jo nx) :: (S1 ++ [Ob.box (etz x)]), Ob.box (wzz d (.sl f (L.map etz) (.own (i + 1))) U T ow ep jo nx) :: (S1 ++ [Ob.box (etz x)])), ([true, false], Ob.box (wzz d (.sl f (L.map etz) (.own (i + 1))) U T ow ep jo nx) :: (S1 ++ [Ob.box (etz x), .box [.sl (some true) [] .full, vi 0]]), Ob.box (wzz d (.sl f (L.map etz) (.own (i + 1))) U T ow ep jo nx) :: (S1 ++ [Ob.box (etz x), .box [.sl (some true) [] .full, vi 0]]))] (by rfl) (by kernel_rfl) (rs := [24, 22]) (by rfl) (by first | (simp only [nf, nfS, Nat.beq] <;> rfl) | rfl) (fun base => ⟨
      ⟨rfl, rfl, by
        refine n_arrAddr (q := 1) rfl Try.underlying215 ti214 (by first | (simp only [nf, nfS, Nat.beq] <;> rfl) | rfl) (by first | (simp only [nf, nfS, Nat.beq] <;> rfl) | rfl) (by decide) (by decide) rfl ?_
        exact AOps.nil ⟨rfl, rfl, rfl⟩⟩,
      ⟨rfl, rfl, by
        refine n_arrAddr (q := 1) rfl Try.underlying215 ti214 (by first | (simp only [nf, nfS, Nat.beq] <;> rfl) | rfl) (by first | (simp only [nf, nfS, Nat.beq] <;> rfl) | rfl) (by decide) (by decide) rfl ?_
        exact AOps.nil ⟨rfl, rfl, rfl⟩⟩,
      trivial⟩) ?_
  refine Walk.cases [([false, false], Ob.box (wzz d (.sl f (L.map etz) (.own (i + 1))) U T ow ep jo nx) :: (S1 ++ [Ob.box (etz x)]), Ob.box (wzz d (.sl f (L.map etz) (.own (i + 1))) U T ow ep jo nx) :: (S1 ++ [Ob.box (etz x)])), ([true, false], Ob.box (wzz d (.sl f (L.map etz) (.own (i + 1))) U T ow ep jo nx) :: (S1 ++ [Ob.box (etz x), .box [.sl (some true) [] .full, vi 0]]), Ob.box (wzz d (.sl f (L.map etz) (.own (i + 1))) U T ow ep jo nx) :: (S1 ++ [Ob.box (etz x), .box [.sl (some true) [] .full, vi 0]]))] (by rfl) (by kernel_rfl) (rs := [25]) (by rfl) (by first | (simp only [nf, nfS, Nat.beq] <;> rfl) | rfl) (fun base => ⟨
      ⟨rfl, rfl, by
        refine n_load rfl ti214 (by first | (simp only [nf, nfS, Nat.beq] <;> rfl) | rfl) (by first | (simp only [nf, nfS, Nat.beq] <;> rfl) | rfl) rfl (by first | (simp only [nf, nfS, Nat.beq] <;> rfl) | rfl) ?_
        exact AOps.nil ⟨rfl, rfl, rfl⟩⟩,
      ⟨rfl, rfl, by
        refine n_load rfl ti214 (by first | (simp only [nf, nfS, Nat.beq] <;> rfl) | rfl) (by first | (simp only [nf, nfS, Nat.beq] <;> rfl) | rfl) rfl (by first | (simp only [nf, nfS, Nat.beq] <;> rfl) | rfl) ?_
        exact AOps.nil ⟨rfl, rfl, rfl⟩⟩,
      trivial⟩) ?_
  refine Walk.cases [([false, false], Ob.box (wzz d (.sl f (L.map etz) (.own (i + 1))) U T ow ep jo nx) :: (S1 ++ [Ob.box (etz x)]), Ob.box (wzz d (.sl f (L.map etz) (.own (i + 1))) U T ow ep jo nx) :: (S1 ++ [Ob.box (etz x)])), ([true, false], Ob.box (wzz d (.sl f (L.map etz) (.own (i + 1))) U T ow ep jo nx) :: (S1 ++ [Ob.box (etz x), .box [.sl (some true) [] .full, vi 0]]), Ob.box (wzz d (.sl f (L.map etz) (.own (i + 1))) U T ow ep jo nx) :: (S1 ++ [Ob.box (etz x), .box [.sl (some true) [] .full, vi 0]]))] (by rfl) (by kernel_rfl) (rs := [26]) (by rfl) (by first | (simp only [nf, nfS, Nat.beq] <;> rfl) | rfl) (fun base => ⟨
      ⟨rfl, rfl, by
        refine n_len rfl Try.underlying214 (by first | (simp only [nf, nfS, Nat.beq] <;> rfl) | rfl) (n := (L.length : Int)) (by rw [List.length_map]) ?_
        exact AOps.nil ⟨rfl, rfl, rfl⟩⟩,
      ⟨rfl, rfl, by
        refine n_len rfl Try.underlying214 (by first | (simp only [nf, nfS, Nat.beq] <;> rfl) | rfl) (n := (L.length : Int)) (by rw [List.length_map]) ?_
        exact AOps.nil ⟨rfl, rfl, rfl⟩⟩,
      trivial⟩) ?_
  refine Walk.cases [([false, false], Ob.box (wzz d (.sl f (L.map etz) (.own (i + 1))) U T ow ep jo nx) :: (S1 ++ [Ob.box (etz x)]), Ob.box (wzz d (.sl f (L.map etz) (.own (i + 1))) U T ow ep jo nx) :: (S1 ++ [Ob.box (etz x)])), ([true, false], Ob.box (wzz d (.sl f (L.map etz) (.own (i + 1))) U T ow ep jo nx) :: (S1 ++ [Ob.box (etz x), .box [.sl (some true) [] .full, vi 0]]), Ob.box (wzz d (.sl f (L.map etz) (.own (i + 1))) U T ow ep jo nx) :: (S1 ++ [Ob.box (etz x), .box [.sl (some true) [] .full, vi 0]]))] (by rfl) (by kernel_rfl) (rs := [20, 27]) (by rfl) (by first | (simp only [nf, nfS, Nat.beq] <;> rfl) | rfl) (fun base => ⟨
      ⟨rfl, rfl, by
        refine n_iadd rfl (by first | (simp only [nf, nfS, Nat.beq] <;> rfl) | rfl) (by first | (simp only [nf, nfS, Nat.beq] <;> rfl) | rfl) rfl (by omega) (by omega) ?_
        exact AOps.nil ⟨rfl, rfl, rfl⟩⟩,
      ⟨rfl, rfl, by
        refine n_iadd rfl (by first | (simp only [nf, nfS, Nat.beq] <;> rfl) | rfl) (by first | (simp only [nf, nfS, Nat.beq] <;> rfl) | rfl) rfl (by omega) (by omega) ?_
        exact AOps.nil ⟨rfl, rfl, rfl⟩⟩,
      trivial⟩) ?_
  refine Walk.cases [([false, false], Ob.box (wzz d (.sl f (L.map etz) (.own (i + 1))) U T ow ep jo nx) :: (S1 ++ [Ob.box (etz x)]), Ob.box (wzz d (.sl f (L.map etz) (.own (i + 1))) U T ow ep jo nx) :: (S1 ++ [Ob.box (etz x)])), ([true, false], Ob.box (wzz d (.sl f (L.map etz) (.own (i + 1))) U T ow ep jo nx) :: (S1 ++ [Ob.box (etz x), .box [.sl (some true) [] .full, vi 0]]), Ob.box (wzz d (.sl f (L.map etz) (.own (i + 1))) U T ow ep jo nx) :: (S1 ++ [Ob.box (etz x), .box [.sl (some true) [] .full, vi 0]]))] (by rfl) (by kernel_rfl) (rs := [14, 16, 18, 28]) (by rfl) (by first | (simp only [nf, nfS, Nat.beq] <;> rfl) | rfl) (fun base => ⟨
      ⟨rfl, rfl, by
        refine n_call0B rfl cf223 rfl (Eq.trans (by simp only [nl] <;> rfl) (by first | (simp only [nf, nfS, Nat.beq] <;> rfl) | rfl)) (by repeat (first | exact .nil | refine .cons ?_ ?_ | exact ren_ints | exact .lf (.val _) | exact .lf (lf_ints (.inl rfl)) | exact .bp ⟨rfl, rfl⟩ | exact .bp (.inl ⟨rfl, rfl⟩) | exact .bp (.inr ⟨rfl, rfl⟩) | exact ren_nil0 | exact .lf (lf_fnrp (lf_cons (.val _) lf_nil)) | exact .lf (.rp (lf_cons (.val _) lf_nil)) | exact .bs ⟨rfl, rfl⟩ | exact .lf (D.flat_lf rfl) | exact ren_map (f := spz) (fun _ => rfl) | exact .lf (lf_tz _) | exact ren_tz | exact .lf (.fn (fun d h => by cases h) (fun d h => by cases h)) | exact .lf (lf_fnrp (lf_rp1 (f := spz) (fun _ => rfl))) | exact .ro (by intro x hx; simp only [List.mem_cons, List.not_mem_nil, or_false] at hx; rcases hx with rfl | rfl <;> exact flats_lf rfl))) (hadd) (by first | exact .val _ | exact lf_ints (.inl rfl) | exact lf_ints (.inr rfl) | exact .any | exact lf_nil0 | exact lf_fnrp (lf_cons (.val _) lf_nil) | exact D.flat_lf rfl | exact lf_map (f := spz) (fun _ => rfl) (.inl rfl) | exact lf_tz _ | exact .tup (lf_cons (lf_tz _) (lf_cons (.val _) lf_nil)) | exact lf_fnrp (lf_rp1 (f := spz) (fun _ => rfl))) ?_
        exact AOps.nil ⟨rfl, rfl, rfl⟩⟩,
      ⟨rfl, rfl, by
        refine n_call0B rfl cf223 rfl (Eq.trans (by simp only [nl] <;> rfl) (by first | (simp only [nf, nfS, Nat.beq] <;> rfl) | rfl)) (by repeat (first | exact .nil | refine .cons ?_ ?_ | exact ren_ints | exact .lf (.val _) | exact .lf (lf_ints (.inl rfl)) | exact .bp ⟨rfl, rfl⟩ | exact .bp (.inl ⟨rfl, rfl⟩) | exact .bp (.inr ⟨rfl, rfl⟩) | exact ren_nil0 | exact .lf (lf_fnrp (lf_cons (.val _) lf_nil)) | exact .lf (.rp (lf_cons (.val _) lf_nil)) | exact .bs ⟨rfl, rfl⟩ | exact .lf (D.flat_lf rfl) | exact ren_map (f := spz) (fun _ => rfl) | exact .lf (lf_tz _) | exact ren_tz | exact .lf (.fn (fun d h => by cases h) (fun d h => by cases h)) | exact .lf (lf_fnrp (lf_rp1 (f := spz) (fun _ => rfl))) | exact .ro (by intro x hx; simp only [List.mem_cons, List.not_mem_nil, or_false] at hx; rcases hx with rfl | rfl <;> exact flats_lf rfl))) (hadd) (by first | exact .val _ | exact lf_ints (.inl rfl) | exact lf_ints (.inr rfl) | exact .any | exact lf_nil0 | exact lf_fnrp (lf_cons (.val _) lf_nil) | exact D.flat_lf rfl | exact lf_map (f := spz) (fun _ => rfl) (.inl rfl) | exact lf_tz _ | exact .tup (lf_cons (lf_tz _) (lf_cons (.val _) lf_nil)) | exact lf_fnrp (lf_rp1 (f := spz) (fun _ => rfl))) ?_
        exact AOps.nil ⟨rfl, rfl, rfl⟩⟩,
      trivial⟩) ?_
  refine Walk.cases [([false, false], Ob.box (wzz d (.sl f (L.map etz) (.own (i + 1))) U T ow ep jo nx) :: (S1 ++ [Ob.box (etz x)]), Ob.box (wzz d (.sl f (L.map etz) (.own (i + 1))) U T ow ep jo nx) :: (S1 ++ [Ob.box (etz x)])), ([true, false], Ob.box (wzz d (.sl f (L.map etz) (.own (i + 1))) U T ow ep jo nx) :: (S1 ++ [Ob.box (etz x), .box [.sl (some true) [] .full, vi 0]]), Ob.box (wzz d (.sl f (L.map etz) (.own (i + 1))) U T ow ep jo nx) :: (S1 ++ [Ob.box (etz x), .box [.sl (some true) [] .full, vi 0]]))] (by rfl) (by kernel_rfl) (rs := [29]) (by rfl) (by first | (simp only [nf, nfS, Nat.beq] <;> rfl) | rfl) (fun base => ⟨
      ⟨rfl, rfl, by
        refine n_move rfl (by first | (simp only [nf, nfS, Nat.beq] <;> rfl) | rfl) ?_
        exact AOps.nil ⟨rfl, rfl, rfl⟩⟩,
      ⟨rfl, rfl, by
        refine n_move rfl (by first | (simp only [nf, nfS, Nat.beq] <;> rfl) | rfl) ?_
        exact AOps.nil ⟨rfl, rfl, rfl⟩⟩,
      trivial⟩) ?_
  refine Walk.cases [([false, false], Ob.box (wzz d (.sl f (L.map etz) (.own (i + 1))) U T ow ep jo nx) :: (S1 ++ [Ob.box (etz x)]), Ob.box (wzz d (.sl f (L.map etz) (.own (i + 1))) U T ow ep jo nx) :: (S1 ++ [Ob.box (etz x)])), ([true, false], Ob.box (wzz d (.sl f (L.map etz) (.own (i + 1))) U T ow ep jo nx) :: (S1 ++ [Ob.box (etz x), .box [.sl (some true) [] .full, vi 0]]), Ob.box (wzz d (.sl f (L.map etz) (.own (i + 1))) U T ow ep jo nx) :: (S1 ++ [Ob.box (etz x), .box [.sl (some true) [] .full, vi 0]]))] (by rfl) (by kernel_rfl) (rs := [8]) (by rfl) (by first | (simp only [nf, nfS, Nat.beq] <;> rfl) | rfl) (fun base => ⟨
      ⟨rfl, rfl, by
        refine n_extract rfl (by first | (simp only [nf, nfS, Nat.beq] <;> rfl) | rfl) rfl ?_
        exact AOps.nil ⟨rfl, rfl, rfl⟩⟩,
      ⟨rfl, rfl, by
        refine n_extract rfl (by first | (simp only [nf, nfS, Nat.beq] <;> rfl) | rfl) rfl ?_
        exact AOps.nil ⟨rfl, rfl, rfl⟩⟩,
      trivial⟩) ?_
  refine Walk.cases [([false, false], Ob.box (wzz d (.sl f (L.map etz) (.own (i + 1))) U T ow ep jo nx) :: (S1 ++ [Ob.box (etz x)]), Ob.box (wzz d (.sl f (L.map etz) (.own (i + 1))) U T ow ep jo nx) :: (S1 ++ [Ob.box (etz x)])), ([true, false], Ob.box (wzz d (.sl f (L.map etz) (.own (i + 1))) U T ow ep jo nx) :: (S1 ++ [Ob.box (etz x), .box [.sl (some true) [] .full, vi 0]]), Ob.box (wzz d (.sl f (L.map etz) (.own (i + 1))) U T ow ep jo nx) :: (S1 ++ [Ob.box (etz x), .box [.sl (some true) [] .full, vi 0]])), ([true, true], Ob.box (wzz d (.sl f (L.map etz) (.own (i + 1))) U T ow ep jo nx) :: (S1 ++ [Ob.box (etz x), Ob.box [.sl none (T'.l.map spz) .ro, vi T'.n]]), Ob.box (wzz d (.sl f (L.map etz) (.own (i + 1))) U T ow ep jo nx) :: (S1 ++ [Ob.box (etz x), Ob.box [.sl none (T'.l.map spz) .ro, vi T'.n]]))] (by rfl) (by kernel_rfl) (rs := [8]) (by rfl) (by first | (simp only [nf, nfS, Nat.beq] <;> rfl) | rfl) (fun base => ⟨
      ⟨rfl, rfl, by
        refine n_extract rfl (by first | (simp only [nf, nfS, Nat.beq] <;> rfl) | rfl) rfl ?_
        exact AOps.nil ⟨rfl, rfl, rfl⟩⟩,
      ⟨rfl, rfl, by
        refine n_extract rfl (by first | (simp only [nf, nfS, Nat.beq] <;> rfl) | rfl) rfl ?_
        exact AOps.nil ⟨rfl, rfl, rfl⟩⟩,
      ⟨rfl, rfl, by
        refine n_extract rfl (by first | (simp only [nf, nfS, Nat.beq] <;> rfl) | rfl) rfl ?_
        exact AOps.nil ⟨rfl, rfl, rfl⟩⟩,
      trivial⟩) ?_
  refine Walk.cases [([false, false], Ob.box (wzz d (.sl f (L.map etz) (.own (i + 1))) U T ow ep jo nx) :: (S1 ++ [Ob.box (etz x)]), Ob.box (wzz d (.sl f (L.map etz) (.own (i + 1))) U T ow ep jo nx) :: (S1 ++ [Ob.box (etz x), .box [.sl (some true) [] .full, vi 0]]))] (by rfl) (by kernel_rfl) (rs := []) (by rfl) (by first | (simp only [nf, nfS, Nat.beq] <;> rfl) | rfl) (fun base => ⟨
      ⟨rfl, rfl, by
        refine n_alloc rfl zi188 rfl (by first | (simp only [nf, nfS, Nat.beq] <;> rfl) | rfl) (by first | (simp only [nf, nfS, Nat.beq] <;> rfl) | rfl) ?_
        exact AOps.nil ⟨rfl, rfl, rfl⟩⟩,
      trivial⟩) ?_
  refine Walk.cases (d := .any) [([true, false], Ob.box (wzz d (.sl f (L.map etz) (.own (i + 1))) U T ow ep jo nx) :: (S1 ++ [Ob.box (etz x), .box [.sl (some true) [] .full, vi 0]]), Ob.box (wzz d (.sl f (L.map etz) (.own (i + 1))) U T ow ep jo nx) :: (S1 ++ [Ob.box (etz x), Ob.box [.sl none (T'.l.map spz) .ro, vi T'.n]]))] (by rfl) (by kernel_rfl) (rs := [6, 30]) (by rfl) (by first | (simp only [nf, nfS, Nat.beq] <;> rfl) | rfl) (fun base => ⟨
      ⟨rfl, rfl, by
        refine n_store ti188 (by first | (simp only [nf, nfS, Nat.beq] <;> rfl) | rfl) (by first | (simp only [nf, nfS, Nat.beq] <;> rfl) | rfl) (by first | (simp only [nf, nfS, Nat.beq] <;> rfl) | rfl) rfl (by first | (simp only [nf, nfS, Nat.beq] <;> rfl) | rfl) rfl rfl rfl (by first | (simp only [nf, nfS, Nat.beq] <;> rfl) | rfl) ?_
        exact AOps.nil ⟨rfl, rfl, rfl⟩⟩,
      trivial⟩) ?_
  refine Walk.cases [([true, true], Ob.box (wzz d (.sl f (L.map etz) (.own (i + 1))) U T ow ep jo nx) :: (S1 ++ [Ob.box (etz x), Ob.box [.sl none (T'.l.map spz) .ro, vi T'.n]]), Ob.box (wzz d (.sl f (L.map etz) (.own (i + 1))) U T ow ep jo nx) :: (S1 ++ [Ob.box (etz x), Ob.box [.sl none (T'.l.map spz) .ro, vi T'.n]]))] (by rfl) (by kernel_rfl) (rs := [31]) (by rfl) (by first | (simp only [nf, nfS, Nat.beq] <;> rfl) | rfl) (fun base => ⟨
      ⟨rfl, rfl, by
        refine n_assign rfl (by first | (simp only [nf, nfS, Nat.beq] <;> rfl) | rfl) ?_
        exact AOps.nil ⟨rfl, rfl, rfl⟩⟩,
      trivial⟩) ?_
  refine Walk.done ?_
  refine AWP.seq ?_
  refine AWP.region ?_
  refine n_move rfl (by first | (simp only [nf, nfS, Nat.beq] <;> rfl) | rfl) ?_
  refine n_move rfl (by first | (simp only [nf, nfS, Nat.beq] <;> rfl) | rfl) ?_
  refine n_nilCheck rfl (by first | (simp only [nf, nfS, Nat.beq] <;> rfl) | rfl) rfl ?_
  refine n_fieldAddr rfl fd217_6 ti4 rfl (by first | (simp only [nf, nfS, Nat.beq] <;> rfl) | rfl) rfl (by first | (simp only [nf, nfS, Nat.beq] <;> rfl) | rfl) ?_
  refine n_load rfl ti4 (by first | (simp only [nf, nfS, Nat.beq] <;> rfl) | rfl) (by first | (simp only [nf, nfS, Nat.beq] <;> rfl) | rfl) rfl (by first | (simp only [nf, nfS, Nat.beq] <;> rfl) | rfl) ?_
  refine n_move rfl (by first | (simp only [nf, nfS, Nat.beq] <;> rfl) | rfl) ?_
  refine n_guard_yes rfl rfl rfl (by first | (simp only [nf, nfS, Nat.beq] <;> rfl) | rfl) rfl ?_
  refine n_move rfl (by first | (simp only [nf, nfS, Nat.beq] <;> rfl) | rfl) ?_
  refine n_guard_yes rfl rfl rfl (by first | (simp only [nf, nfS, Nat.beq] <;> rfl) | rfl) rfl ?_
  refine n_ibin rfl (by first | (simp only [nf, nfS, Nat.beq] <;> rfl) | rfl) (by first | (simp only [nf, nfS, Nat.beq] <;> rfl) | rfl) rfl ?_
  refine n_pick rfl (by first | (simp only [nf, nfS, Nat.beq] <;> rfl) | rfl) (by first | (simp only [nf, nfS, Nat.beq] <;> rfl) | rfl) ?_
  refine n_nilCheck rfl (by first | (simp only [nf, nfS, Nat.beq] <;> rfl) | rfl) rfl ?_
  refine n_fieldAddr rfl fd217_6 ti4 rfl (by first | (simp only [nf, nfS, Nat.beq] <;> rfl) | rfl) rfl (by first | (simp only [nf, nfS, Nat.beq] <;> rfl) | rfl) ?_
  refine n_store ti4 (by first | (simp only [nf, nfS, Nat.beq] <;> rfl) | rfl) (by first | (simp only [nf, nfS, Nat.beq] <;> rfl) | rfl) (by first | (simp only [nf, nfS, Nat.beq] <;> rfl) | rfl) rfl (by first | (simp only [nf, nfS, Nat.beq] <;> rfl) | rfl) rfl rfl rfl (by first | (simp only [nf, nfS, Nat.beq] <;> rfl) | rfl) ?_
  refine AOps.nil ?_
  refine AWP.seq ?_
  refine AWP.any1 6 (Ob.box (wzz d (.sl f (L.map etz) (.own (i + 1))) U T' ow ep jo nx) :: (S1 ++ [Ob.box (etz x), Ob.box [.sl none (T'.l.map spz) .ro, vi T'.n]])) (by kernel_rfl) (by kernel_rfl) (by kernel_rfl) ?_
  refine Walk.ahead [6] (by rfl) (by kernel_rfl) (by rfl) (rs := [0]) (by rfl) (by first | (simp only [nf, nfS, Nat.beq] <;> rfl) | rfl) (fun base => by
      refine n_move rfl (by first | (simp only [nf, nfS, Nat.beq] <;> rfl) | rfl) ?_
      exact AOps.nil ⟨rfl, rfl, rfl⟩) ?_
  refine Walk.ahead [6] (by rfl) (by kernel_rfl) (by rfl) (rs := [1]) (by rfl) (by first | (simp only [nf, nfS, Nat.beq] <;> rfl) | rfl) (fun base => by
      refine n_move rfl (by first | (simp only [nf, nfS, Nat.beq] <;> rfl) | rfl) ?_
      exact AOps.nil ⟨rfl, rfl, rfl⟩) ?_
  refine Walk.ahead [6] (by rfl) (by kernel_rfl) (by rfl) (rs := [6]) (by rfl) (by first | (simp only [nf, nfS, Nat.beq] <;> rfl) | rfl) (fun base => by
      refine n_load rfl ti188 (by first | (simp only [nf, nfS, Nat.beq] <;> rfl) | rfl) (by first | (simp only [nf, nfS, Nat.beq] <;> rfl) | rfl) rfl (by first | (simp only [nf, nfS, Nat.beq] <;> rfl) | rfl) ?_
      exact AOps.nil ⟨rfl, rfl, rfl⟩) ?_
  refine Walk.ahead [4, 5, 6] (by rfl) (by kernel_rfl) (by rfl) (rs := [43]) (by rfl) (by first | (simp only [nf, nfS, Nat.beq] <;> rfl) | rfl) (fun base => by
      refine n_nilCheck rfl (by first | (simp only [nf, nfS, Nat.beq] <;> rfl) | rfl) rfl ?_
      exact AOps.nil ⟨rfl, rfl, rfl⟩) ?_
  refine Walk.ahead [5, 6] (by rfl) (by kernel_rfl) (by rfl) (rs := [46]) (by rfl) (by first | (simp only [nf, nfS, Nat.beq] <;> rfl) | rfl) (fun base => by
      refine n_fieldAddr rfl fd217_1 ti213 rfl (by first | (simp only [nf, nfS, Nat.beq] <;> rfl) | rfl) rfl (by first | (simp only [nf, nfS, Nat.beq] <;> rfl) | rfl) ?_
      exact AOps.nil ⟨rfl, rfl, rfl⟩) ?_
  refine Walk.ahead [6] (by rfl) (by kernel_rfl) (by rfl) (rs := [47, 44]) (by rfl) (by first | (simp only [nf, nfS, Nat.beq] <;> rfl) | rfl) (fun base => by
      refine n_arrAddr (q := 4) rfl Try.underlying213 ti188 (by first | (simp only [nf, nfS, Nat.beq] <;> rfl) | rfl) (by first | (simp only [nf, nfS, Nat.beq] <;> rfl) | rfl) (by decide) (by decide) rfl ?_
      exact AOps.nil ⟨rfl, rfl, rfl⟩) ?_
  refine Walk.writes (d := .any) (by rfl) (rs := [48, 45]) (by rfl) (by first | (simp only [nf, nfS, Nat.beq] <;> rfl) | rfl) (fun base => by
      refine n_store ti188 (by first | (simp only [nf, nfS, Nat.beq] <;> rfl) | rfl) (by first | (simp only [nf, nfS, Nat.beq] <;> rfl) | rfl) (by first | (simp only [nf, nfS, Nat.beq] <;> rfl) | rfl) rfl (by first | (simp only [nf, nfS, Nat.beq] <;> rfl) | rfl) rfl rfl rfl (by first | (simp only [nf, nfS, Nat.beq] <;> rfl) | rfl) ?_
      exact AOps.nil ⟨rfl, rfl, rfl⟩) ?_
  refine Walk.done ?_
  refine AWP.anyT [10, 14] (fun p => match p with | [false, false] => Ob.box (wzz d (.sl f (L.map etz) (.own (i + 1))) U T' ow ep jo nx) :: (S1 ++ [Ob.box (etz x), Ob.box [.sl none (T'.l.map spz) .ro, vi T'.n]]) | [true, false] => Ob.box (wzz d (.sl f (L.map etz) (.own (i + 1))) U T' ow ep jo nx) :: ((S1 ++ [Ob.box (etz x), Ob.box [.sl none (T'.l.map spz) .ro, vi T'.n]]).set i (Ob.row (L.length + 1) 3)) | [true, true] => Ob.box (wzz d (.sl none ((L ++ [x]).map etz) (.own (i + 1))) U T' ow ep jo nx) :: ((S1 ++ [Ob.box (etz x), Ob.box [.sl none (T'.l.map spz) .ro, vi T'.n]]).set i (Ob.row (L.length + 1) 3)) | _ => []) (by kernel_rfl) (by kernel_rfl) rfl rfl ?_
  refine Walk.cases [([false, false], Ob.box (wzz d (.sl f (L.map etz) (.own (i + 1))) U T' ow ep jo nx) :: (S1 ++ [Ob.box (etz x), Ob.box [.sl none (T'.l.map spz) .ro, vi T'.n]]), Ob.box (wzz d (.sl f (L.map etz) (.own (i + 1))) U T' ow ep jo nx) :: (S1 ++ [Ob.box (etz x), Ob.box [.sl none (T'.l.map spz) .ro, vi T'.n]])), ([true, false], Ob.box (wzz d (.sl f (L.map etz) (.own (i + 1))) U T' ow ep jo nx) :: ((S1 ++ [Ob.box (etz x), Ob.box [.sl none (T'.l.map spz) .ro, vi T'.n]]).set i (Ob.row (L.length + 1) 3)), Ob.box (wzz d (.sl f (L.map etz) (.own (i + 1))) U T' ow ep jo nx) :: ((S1 ++ [Ob.box (etz x), Ob.box [.sl none (T'.l.map spz) .ro, vi T'.n]]).set i (Ob.row (L.length + 1) 3)))] (by rfl) (by kernel_rfl) (rs := [0]) (by rfl) (by first | (simp only [nf, nfS, Nat.beq] <;> rfl) | rfl) (fun base => ⟨
      ⟨rfl, rfl, by
        refine n_move rfl (by first | (simp only [nf, nfS, Nat.beq] <;> rfl) | rfl) ?_
        exact AOps.nil ⟨rfl, rfl, rfl⟩⟩,
      ⟨rfl, rfl, by
        refine n_move rfl (by first | (simp only [nf, nfS, Nat.beq] <;> rfl) | rfl) ?_
        exact AOps.nil ⟨rfl, rfl, rfl⟩⟩,
      trivial⟩) ?_
  refine Walk.cases [([false, false], Ob.box (wzz d (.sl f (L.map etz) (.own (i + 1))) U T' ow ep jo nx) :: (S1 ++ [Ob.box (etz x), Ob.box [.sl none (T'.l.map spz) .ro, vi T'.n]]), Ob.box (wzz d (.sl f (L.map etz) (.own (i + 1))) U T' ow ep jo nx) :: (S1 ++ [Ob.box (etz x), Ob.box [.sl none (T'.l.map spz) .ro, vi T'.n]])), ([true, false], Ob.box (wzz d (.sl f (L.map etz) (.own (i + 1))) U T' ow ep jo nx) :: ((S1 ++ [Ob.box (etz x), Ob.box [.sl none (T'.l.map spz) .ro, vi T'.n]]).set i (Ob.row (L.length + 1) 3)), Ob.box (wzz d (.sl f (L.map etz) (.own (i + 1))) U T' ow ep jo nx) :: ((S1 ++ [Ob.box (etz x), Ob.box [.sl none (T'.l.map spz) .ro, vi T'.n]]).set i (Ob.row (L.length + 1) 3)))] (by rfl) (by kernel_rfl) (rs := [1]) (by rfl) (by first | (simp only [nf, nfS, Nat.beq] <;> rfl) | rfl) (fun base => ⟨
      ⟨rfl, rfl, by
        refine n_move rfl (by first | (simp only [nf, nfS, Nat.beq] <;> rfl) | rfl) ?_
        exact AOps.nil ⟨rfl, rfl, rfl⟩⟩,
      ⟨rfl, rfl, by
        refine n_move rfl (by first | (simp only [nf, nfS, Nat.beq] <;> rfl) | rfl) ?_
        exact AOps.nil ⟨rfl, rfl, rfl⟩⟩,
      trivial⟩) ?_
  refine Walk.cases [([false, false], Ob.box (wzz d (.sl f (L.map etz) (.own (i + 1))) U T' ow ep jo nx) :: (S1 ++ [Ob.box (etz x), Ob.box [.sl none (T'.l.map spz) .ro, vi T'.n]]), Ob.box (wzz d (.sl f (L.map etz) (.own (i + 1))) U T' ow ep jo nx) :: (S1 ++ [Ob.box (etz x), Ob.box [.sl none (T'.l.map spz) .ro, vi T'.n]]))] (by rfl) (by kernel_rfl) (rs := [0]) (by rfl) (by first | (simp only [nf, nfS, Nat.beq] <;> rfl) | rfl) (fun base => ⟨
      ⟨rfl, rfl, by
        refine n_move rfl (by first | (simp only [nf, nfS, Nat.beq] <;> rfl) | rfl) ?_
        exact AOps.nil ⟨rfl, rfl, rfl⟩⟩,
      trivial⟩) ?_
  refine Walk.cases [([false, false], Ob.box (wzz d (.sl f (L.map etz) (.own (i + 1))) U T' ow ep jo nx) :: (S1 ++ [Ob.box (etz x), Ob.box [.sl none (T'.l.map spz) .ro, vi T'.n]]), Ob.box (wzz d (.sl f (L.map etz) (.own (i + 1))) U T' ow ep jo nx) :: (S1 ++ [Ob.box (etz x), Ob.box [.sl none (T'.l.map spz) .ro, vi T'.n]]))] (by rfl) (by kernel_rfl) (rs := [1]) (by rfl) (by first | (simp only [nf, nfS, Nat.beq] <;> rfl) | rfl) (fun base => ⟨
      ⟨rfl, rfl, by
        refine n_move rfl (by first | (simp only [nf, nfS, Nat.beq] <;> rfl) | rfl) ?_
        exact AOps.nil ⟨rfl, rfl, rfl⟩⟩,
      trivial⟩) ?_
  refine Walk.cases [([false, false], Ob.box (wzz d (.sl f (L.map etz) (.own (i + 1))) U T' ow ep jo nx) :: (S1 ++ [Ob.box (etz x), Ob.box [.sl none (T'.l.map spz) .ro, vi T'.n]]), Ob.box (wzz d (.sl f (L.map etz) (.own (i + 1))) U T' ow ep jo nx) :: (S1 ++ [Ob.box (etz x), Ob.box [.sl none (T'.l.map spz) .ro, vi T'.n]]))] (by rfl) (by kernel_rfl) (rs := [51]) (by rfl) (by first | (simp only [nf, nfS, Nat.beq] <;> rfl) | rfl) (fun base => ⟨
      ⟨rfl, rfl, by
        refine n_nilCheck rfl (by first | (simp only [nf, nfS, Nat.beq] <;> rfl) | rfl) rfl ?_
        exact AOps.nil ⟨rfl, rfl, rfl⟩⟩,
      trivial⟩) ?_
  refine Walk.cases [([false, false], Ob.box (wzz d (.sl f (L.map etz) (.own (i + 1))) U T' ow ep jo nx) :: (S1 ++ [Ob.box (etz x), Ob.box [.sl none (T'.l.map spz) .ro, vi T'.n]]), Ob.box (wzz d (.sl f (L.map etz) (.own (i + 1))) U T' ow ep jo nx) :: (S1 ++ [Ob.box (etz x), Ob.box [.sl none (T'.l.map spz) .ro, vi T'.n]]))] (by rfl) (by kernel_rfl) (rs := [53]) (by rfl) (by first | (simp only [nf, nfS, Nat.beq] <;> rfl) | rfl) (fun base => ⟨
      ⟨rfl, rfl, by
        refine n_fieldAddr rfl fd217_0 ti215 rfl (by first | (simp only [nf, nfS, Nat.beq] <;> rfl) | rfl) rfl (by first | (simp only [nf, nfS, Nat.beq] <;> rfl) | rfl) ?_
        exact AOps.nil ⟨rfl, rfl, rfl⟩⟩,
      trivial⟩) ?_
  refine Walk.cases [([false, false], Ob.box (wzz d (.sl f (L.map etz) (.own (i + 1))) U T' ow ep jo nx) :: (S1 ++ [Ob.box (etz x), Ob.box [.sl none (T'.l.map spz) .ro, vi T'.n]]), Ob.box (wzz d (.sl f (L.map etz) (.own (i + 1))) U T' ow ep jo nx) :: (S1 ++ [Ob.box (etz x), Ob.box [.sl none (T'.l.map spz) .ro, vi T'.n]]))] (by rfl) (by kernel_rfl) (rs := [54, 52]) (by rfl) (by first | (simp only [nf, nfS, Nat.beq] <;> rfl) | rfl) (fun base => ⟨
      ⟨rfl, rfl, by
        refine n_arrAddr (q := 1) rfl Try.underlying215 ti214 (by first | (simp only [nf, nfS, Nat.beq] <;> rfl) | rfl) (by first | (simp only [nf, nfS, Nat.beq] <;> rfl) | rfl) (by decide) (by decide) rfl ?_
        exact AOps.nil ⟨rfl, rfl, rfl⟩⟩,
      trivial⟩) ?_
  refine Walk.cases [([false, false], Ob.box (wzz d (.sl f (L.map etz) (.own (i + 1))) U T' ow ep jo nx) :: (S1 ++ [Ob.box (etz x), Ob.box [.sl none (T'.l.map spz) .ro, vi T'.n]]), Ob.box (wzz d (.sl f (L.map etz) (.own (i + 1))) U T' ow ep jo nx) :: (S1 ++ [Ob.box (etz x), Ob.box [.sl none (T'.l.map spz) .ro, vi T'.n]]))] (by rfl) (by kernel_rfl) (rs := [55]) (by rfl) (by first | (simp only [nf, nfS, Nat.beq] <;> rfl) | rfl) (fun base => ⟨
      ⟨rfl, rfl, by
        refine n_load rfl ti214 (by first | (simp only [nf, nfS, Nat.beq] <;> rfl) | rfl) (by first | (simp only [nf, nfS, Nat.beq] <;> rfl) | rfl) rfl (by first | (simp only [nf, nfS, Nat.beq] <;> rfl) | rfl) ?_
        exact AOps.nil ⟨rfl, rfl, rfl⟩⟩,
      trivial⟩) ?_
  refine Walk.cases [([false, false], Ob.box (wzz d (.sl f (L.map etz) (.own (i + 1))) U T' ow ep jo nx) :: (S1 ++ [Ob.box (etz x), Ob.box [.sl none (T'.l.map spz) .ro, vi T'.n]]), Ob.box (wzz d (.sl f (L.map etz) (.own (i + 1))) U T' ow ep jo nx) :: (S1 ++ [Ob.box (etz x), Ob.box [.sl none (T'.l.map spz) .ro, vi T'.n]]))] (by rfl) (by kernel_rfl) (rs := [5]) (by rfl) (by first | (simp only [nf, nfS, Nat.beq] <;> rfl) | rfl) (fun base => ⟨
      ⟨rfl, rfl, by
        refine n_load rfl ti224 (by first | (simp only [nf, nfS, Nat.beq] <;> rfl) | rfl) (by first | (simp only [nf, nfS, Nat.beq] <;> rfl) | rfl) rfl (by first | (simp only [nf, nfS, Nat.beq] <;> rfl) | rfl) ?_
        exact AOps.nil ⟨rfl, rfl, rfl⟩⟩,
      trivial⟩) ?_
  refine Walk.cases [([false, false], Ob.box (wzz d (.sl f (L.map etz) (.own (i + 1))) U T' ow ep jo nx) :: (S1 ++ [Ob.box (etz x), Ob.box [.sl none (T'.l.map spz) .ro, vi T'.n]]), Ob.box (wzz d (.sl f (L.map etz) (.own (i + 1))) U T' ow ep jo nx) :: (S1 ++ [Ob.box (etz x), Ob.box [.sl none (T'.l.map spz) .ro, vi T'.n]]))] (by rfl) (by kernel_rfl) (rs := [57]) (by rfl) (by first | (simp only [nf, nfS, Nat.beq] <;> rfl) | rfl) (fun base => ⟨
      ⟨rfl, rfl, by
        refine n_lit rfl Try.underlying214 ti224 zi224 rfl rfl (Eq.trans (by simp only [nl] <;> rfl) (by first | (simp only [nf, nfS, Nat.beq] <;> rfl) | rfl)) rfl (by first | (simp only [nf, nfS, Nat.beq] <;> rfl) | rfl) ?_
        exact AOps.nil ⟨rfl, rfl, rfl⟩⟩,
      trivial⟩) ?_
  refine Walk.cases [([false, false], Ob.box (wzz d (.sl f (L.map etz) (.own (i + 1))) U T' ow ep jo nx) :: (S1 ++ [Ob.box (etz x), Ob.box [.sl none (T'.l.map spz) .ro, vi T'.n]]), Ob.box (wzz d (.sl f (L.map etz) (.own (i + 1))) U T' ow ep jo nx) :: ((S1 ++ [Ob.box (etz x), Ob.box [.sl none (T'.l.map spz) .ro, vi T'.n]]).set i (Ob.row (L.length + 1) 3)))] (by rfl) (by kernel_rfl) (rs := [56, 58]) (by rfl) (by first | (simp only [nf, nfS, Nat.beq] <;> rfl) | rfl) (fun base => ⟨
      ⟨rfl, rfl, by
        refine n_append_own (zs := (L ++ [x]).map etz) (m := L.length + 1) rfl Try.underlying214 Try.underlying214 ei224 (by first | (simp only [nf, nfS, Nat.beq] <;> rfl) | rfl) (by show (S1 ++ _)[i]? = _; rw [List.getElem?_append_left (List.getElem?_eq_some_iff.1 hr).1]; exact hr) (by rw [List.length_map]) (by first | (simp only [nf, nfS, Nat.beq] <;> rfl) | rfl) et4 (by intro y hy; simp at hy; subst hy; rfl) (by simp) (by simp) (by omega) rfl ?_
        exact AOps.nil ⟨rfl, rfl, rfl⟩⟩,
      trivial⟩) ?_
  refine Walk.cases [([false, false], Ob.box (wzz d (.sl f (L.map etz) (.own (i + 1))) U T' ow ep jo nx) :: (S1 ++ [Ob.box (etz x), Ob.box [.sl none (T'.l.map spz) .ro, vi T'.n]]), Ob.box (wzz d (.sl f (L.map etz) (.own (i + 1))) U T' ow ep jo nx) :: (S1 ++ [Ob.box (etz x), Ob.box [.sl none (T'.l.map spz) .ro, vi T'.n]])), ([true, false], Ob.box (wzz d (.sl f (L.map etz) (.own (i + 1))) U T' ow ep jo nx) :: ((S1 ++ [Ob.box (etz x), Ob.box [.sl none (T'.l.map spz) .ro, vi T'.n]]).set i (Ob.row (L.length + 1) 3)), Ob.box (wzz d (.sl f (L.map etz) (.own (i + 1))) U T' ow ep jo nx) :: ((S1 ++ [Ob.box (etz x), Ob.box [.sl none (T'.l.map spz) .ro, vi T'.n]]).set i (Ob.row (L.length + 1) 3)))] (by rfl) (by kernel_rfl) (rs := [49]) (by rfl) (by first | (simp only [nf, nfS, Nat.beq] <;> rfl) | rfl) (fun base => ⟨
      ⟨rfl, rfl, by
        refine n_nilCheck rfl (by first | (simp only [nf, nfS, Nat.beq] <;> rfl) | rfl) rfl ?_
        exact AOps.nil ⟨rfl, rfl, rfl⟩⟩,
      ⟨rfl, rfl, by
        refine n_nilCheck rfl (by first | (simp only [nf, nfS, Nat.beq] <;> rfl) | rfl) rfl ?_
        exact AOps.nil ⟨rfl, rfl, rfl⟩⟩,
      trivial⟩) ?_
  refine Walk.cases [([false, false], Ob.box (wzz d (.sl f (L.map etz) (.own (i + 1))) U T' ow ep jo nx) :: (S1 ++ [Ob.box (etz x), Ob.box [.sl none (T'.l.map spz) .ro, vi T'.n]]), Ob.box (wzz d (.sl f (L.map etz) (.own (i + 1))) U T' ow ep jo nx) :: (S1 ++ [Ob.box (etz x), Ob.box [.sl none (T'.l.map spz) .ro, vi T'.n]])), ([true, false], Ob.box (wzz d (.sl f (L.map etz) (.own (i + 1))) U T' ow ep jo nx) :: ((S1 ++ [Ob.box (etz x), Ob.box [.sl none (T'.l.map spz) .ro, vi T'.n]]).set i (Ob.row (L.length + 1) 3)), Ob.box (wzz d (.sl f (L.map etz) (.own (i + 1))) U T' ow ep jo nx) :: ((S1 ++ [Ob.box (etz x), Ob.box [.sl none (T'.l.map spz) .ro, vi T'.n]]).set i (Ob.row (L.length + 1) 3)))] (by rfl) (by kernel_rfl) (rs := [60]) (by rfl) (by first | (simp only [nf, nfS, Nat.beq] <;> rfl) | rfl) (fun base => ⟨
      ⟨rfl, rfl, by
        refine n_fieldAddr rfl fd217_0 ti215 rfl (by first | (simp only [nf, nfS, Nat.beq] <;> rfl) | rfl) rfl (by first | (simp only [nf, nfS, Nat.beq] <;> rfl) | rfl) ?_
        exact AOps.nil ⟨rfl, rfl, rfl⟩⟩,
      ⟨rfl, rfl, by
        refine n_fieldAddr rfl fd217_0 ti215 rfl (by first | (simp only [nf, nfS, Nat.beq] <;> rfl) | rfl) rfl (by first | (simp only [nf, nfS, Nat.beq] <;> rfl) | rfl) ?_
        exact AOps.nil ⟨rfl, rfl, rfl⟩⟩,
      trivial⟩) ?_
  refine Walk.cases [([true, false], Ob.box (wzz d (.sl f (L.map etz) (.own (i + 1))) U T' ow ep jo nx) :: ((S1 ++ [Ob.box (etz x), Ob.box [.sl none (T'.l.map spz) .ro, vi T'.n]]).set i (Ob.row (L.length + 1) 3)), Ob.box (wzz d (.sl f (L.map etz) (.own (i + 1))) U T' ow ep jo nx) :: ((S1 ++ [Ob.box (etz x), Ob.box [.sl none (T'.l.map spz) .ro, vi T'.n]]).set i (Ob.row (L.length + 1) 3)))] (by rfl) (by kernel_rfl) (rs := [61, 50]) (by rfl) (by first | (simp only [nf, nfS, Nat.beq] <;> rfl) | rfl) (fun base => ⟨
      ⟨rfl, rfl, by
        refine n_arrAddr (q := 1) rfl Try.underlying215 ti214 (by first | (simp only [nf, nfS, Nat.beq] <;> rfl) | rfl) (by first | (simp only [nf, nfS, Nat.beq] <;> rfl) | rfl) (by decide) (by decide) rfl ?_
        exact AOps.nil ⟨rfl, rfl, rfl⟩⟩,
      trivial⟩) ?_
  refine Walk.cases (d := .any) [([true, false], Ob.box (wzz d (.sl f (L.map etz) (.own (i + 1))) U T' ow ep jo nx) :: ((S1 ++ [Ob.box (etz x), Ob.box [.sl none (T'.l.map spz) .ro, vi T'.n]]).set i (Ob.row (L.length + 1) 3)), Ob.box (wzz d (.sl none ((L ++ [x]).map etz) (.own (i + 1))) U T' ow ep jo nx) :: ((S1 ++ [Ob.box (etz x), Ob.box [.sl none (T'.l.map spz) .ro, vi T'.n]]).set i (Ob.row (L.length + 1) 3)))] (by rfl) (by kernel_rfl) (rs := [62, 59]) (by rfl) (by first | (simp only [nf, nfS, Nat.beq] <;> rfl) | rfl) (fun base => ⟨
      ⟨rfl, rfl, by
        refine n_store ti214 (by first | (simp only [nf, nfS, Nat.beq] <;> rfl) | rfl) (by first | (simp only [nf, nfS, Nat.beq] <;> rfl) | rfl) (by first | (simp only [nf, nfS, Nat.beq] <;> rfl) | rfl) rfl (by first | (simp only [nf, nfS, Nat.beq] <;> rfl) | rfl) rfl rfl rfl (by first | (simp only [nf, nfS, Nat.beq] <;> rfl) | rfl) ?_
        exact AOps.nil ⟨rfl, rfl, rfl⟩⟩,
      trivial⟩) ?_
  refine Walk.done ?_
  refine finK_normal .nil (by first | (simp only [nf, nfS, Nat.beq] <;> rfl) | rfl) ?_
  exact hK _ i (kept_own hr)

set_option maxHeartbeats 2000000 in
theorem put_1full (d : D) (U T T' : Tb) (ow ep : Int) (jo : Bool) (nx : Int) (f : Option Bool) (L : List Et) (x : Et) (S1 : List Ob) (K : D → List Ob → Prop) (hL : L.length ≤ 1000) (hadd : Does Try.prog 223 [tz T, vi x.e, vi x.r, vi (100 * 1 + (L.length : Int))] [] (.tup [tz T', vi 0]) []) (hK : ∀ S2 j, Kept S1 S2 .full j (L.length + 1) → K (.tup []) (Ob.box (wzz d (.sl none ((L ++ [x]).map etz) (.own (j + 1))) U T' ow ep jo nx) :: S2)) : DoesK Try.prog 244 [.bp 0 0, vi 1, .agg (etz x)] (Ob.box (wzz d (.sl f (L.map etz) .full) U T ow ep jo nx) :: S1) K := by
  refine DoesK.of_body (rvs := []) Try.func244 rfl rfl rfl rfl ?_
  refine AWP.seq ?_
  refine AWP.region ?_
  refine n_box rfl (by first | (simp only [nf, nfS, Nat.beq] <;> rfl) | rfl) rfl rfl (by first | (simp only [nf, nfS, Nat.beq] <;> rfl) | rfl) (by first | (simp only [nf, nfS, Nat.beq] <;> rfl) | rfl) ?_
  refine AOps.nil ?_
  refine AWP.seq ?_
  refine AWP.anyT [24, 25] (fun p => match p with | [false, false] => Ob.box (wzz d (.sl f (L.map etz) .full) U T ow ep jo nx) :: (S1 ++ [Ob.box (etz x)]) | [true, false] => Ob.box (wzz d (.sl f (L.map etz) .full) U T ow ep jo nx) :: (S1 ++ [Ob.box (etz x), .box [.sl (some true) [] .full, vi 0]]) | [true, true] => Ob.box (wzz d (.sl f (L.map etz) .full) U T ow ep jo nx) :: (S1 ++ [Ob.box (etz x), Ob.box [.sl none (T'.l.map spz) .ro, vi T'.n]]) | _ => []) (by kernel_rfl) (by kernel_rfl) rfl rfl ?_
  refine Walk.cases [([false, false], Ob.box (wzz d (.sl f (L.map etz) .full) U T ow ep jo nx) :: (S1 ++ [Ob.box (etz x)]), Ob.box (wzz d (.sl f (L.map etz) .full) U T ow ep jo nx) :: (S1 ++ [Ob.box (etz x)])), ([true, false], Ob.box (wzz d (.sl f (L.map etz) .full) U T ow ep jo nx) :: (S1 ++ [Ob.box (etz x), .box [.sl (some true) [] .full, vi 0]]), Ob.box (wzz d (.sl f (L.map etz) .full) U T ow ep jo nx) :: (S1 ++ [Ob.box (etz x), .box [.sl (some true) [] .full, vi 0]]))] (by rfl) (by kernel_rfl) (rs := [0]) (by rfl) (by first | (simp only [nf, nfS, Nat.beq] <;> rfl) | rfl) (fun base => ⟨
      ⟨rfl, rfl, by
        refine n_move rfl (by first | (simp only [nf, nfS, Nat.beq] <;> rfl) | rfl) ?_
        exact AOps.nil ⟨rfl, rfl, rfl⟩⟩,
      ⟨rfl, rfl, by
        refine n_move rfl (by first | (simp only [nf, nfS, Nat.beq] <;> rfl) | rfl) ?_
        exact AOps.nil ⟨rfl, rfl, rfl⟩⟩,
      trivial⟩) ?_
  refine Walk.cases [([false, false], Ob.box (wzz d (.sl f (L.map etz) .full) U T ow ep jo nx) :: (S1 ++ [Ob.box (etz x)]), Ob.box (wzz d (.sl f (L.map etz) .full) U T ow ep jo nx) :: (S1 ++ [Ob.box (etz x)])), ([true, false], Ob.box (wzz d (.sl f (L.map etz) .full) U T ow ep jo nx) :: (S1 ++ [Ob.box (etz x), .box [.sl (some true) [] .full, vi 0]]), Ob.box (wzz d (.sl f (L.map etz) .full) U T ow ep jo nx) :: (S1 ++ [Ob.box (etz x), .box [.sl (some true) [] .full, vi 0]]))] (by rfl) (by kernel_rfl) (rs := [1]) (by rfl) (by first | (simp only [nf, nfS, Nat.beq] <;> rfl) | rfl) (fun base => ⟨
      ⟨rfl, rfl, by
        refine n_move rfl (by first | (simp only [nf, nfS, Nat.beq] <;> rfl) | rfl) ?_
        exact AOps.nil ⟨rfl, rfl, rfl⟩⟩,
      ⟨rfl, rfl, by
        refine n_move rfl (by first | (simp only [nf, nfS, Nat.beq] <;> rfl) | rfl) ?_
        exact AOps.nil ⟨rfl, rfl, rfl⟩⟩,
      trivial⟩) ?_
  refine Walk.cases [([false, false], Ob.box (wzz d (.sl f (L.map etz) .full) U T ow ep jo nx) :: (S1 ++ [Ob.box (etz x)]), Ob.box (wzz d (.sl f (L.map etz) .full) U T ow ep jo nx) :: (S1 ++ [Ob.box (etz x)])), ([true, false], Ob.box (wzz d (.sl f (L.map etz) .full) U T ow ep jo nx) :: (S1 ++ [Ob.box (etz x), .box [.sl (some true) [] .full, vi 0]]), Ob.box (wzz d (.sl f (L.map etz) .full) U T ow ep jo nx) :: (S1 ++ [Ob.box (etz x), .box [.sl (some true) [] .full, vi 0]]))] (by rfl) (by kernel_rfl) (rs := [9]) (by rfl) (by first | (simp only [nf, nfS, Nat.beq] <;> rfl) | rfl) (fun base => ⟨
      ⟨rfl, rfl, by
        refine n_nilCheck rfl (by first | (simp only [nf, nfS, Nat.beq] <;> rfl) | rfl) rfl ?_
        exact AOps.nil ⟨rfl, rfl, rfl⟩⟩,
      ⟨rfl, rfl, by
        refine n_nilCheck rfl (by first | (simp only [nf, nfS, Nat.beq] <;> rfl) | rfl) rfl ?_
        exact AOps.nil ⟨rfl, rfl, rfl⟩⟩,
      trivial⟩) ?_
  refine Walk.cases [([false, false], Ob.box (wzz d (.sl f (L.map etz) .full) U T ow ep jo nx) :: (S1 ++ [Ob.box (etz x)]), Ob.box (wzz d (.sl f (L.map etz) .full) U T ow ep jo nx) :: (S1 ++ [Ob.box (etz x)])), ([true, false], Ob.box (wzz d (.sl f (L.map etz) .full) U T ow ep jo nx) :: (S1 ++ [Ob.box (etz x), .box [.sl (some true) [] .full, vi 0]]), Ob.box (wzz d (.sl f (L.map etz) .full) U T ow ep jo nx) :: (S1 ++ [Ob.box (etz x), .box [.sl (some true) [] .full, vi 0]]))] (by rfl) (by kernel_rfl) (rs := [11]) (by rfl) (by first | (simp only [nf, nfS, Nat.beq] <;> rfl) | rfl) (fun base => ⟨
      ⟨rfl, rfl, by
        refine n_fieldAddr rfl fd217_1 ti213 rfl (by first | (simp only [nf, nfS, Nat.beq] <;> rfl) | rfl) rfl (by first | (simp only [nf, nfS, Nat.beq] <;> rfl) | rfl) ?_
        exact AOps.nil ⟨rfl, rfl, rfl⟩⟩,
      ⟨rfl, rfl, by
        refine n_fieldAddr rfl fd217_1 ti213 rfl (by first | (simp only [nf, nfS, Nat.beq] <;> rfl) | rfl) rfl (by first | (simp only [nf, nfS, Nat.beq] <;> rfl) | rfl) ?_
        exact AOps.nil ⟨rfl, rfl, rfl⟩⟩,
      trivial⟩) ?_
  refine Walk.cases [([false, false], Ob.box (wzz d (.sl f (L.map etz) .full) U T ow ep jo nx) :: (S1 ++ [Ob.box (etz x)]), Ob.box (wzz d (.sl f (L.map etz) .full) U T ow ep jo nx) :: (S1 ++ [Ob.box (etz x)])), ([true, false], Ob.box (wzz d (.sl f (L.map etz) .full) U T ow ep jo nx) :: (S1 ++ [Ob.box (etz x), .box [.sl (some true) [] .full, vi 0]]), Ob.box (wzz d (.sl f (L.map etz) .full) U T ow ep jo nx) :: (S1 ++ [Ob.box (etz x), .box [.sl (some true) [] .full, vi 0]]))] (by rfl) (by kernel_rfl) (rs := [12, 10]) (by rfl) (by first | (simp only [nf, nfS, Nat.beq] <;> rfl) | rfl) (fun base => ⟨
      ⟨rfl, rfl, by
        refine n_arrAddr (q := 4) rfl Try.underlying213 ti188 (by first | (simp only [nf, nfS, Nat.beq] <;> rfl) | rfl) (by first | (simp only [nf, nfS, Nat.beq] <;> rfl) | rfl) (by decide) (by decide) rfl ?_
        exact AOps.nil ⟨rfl, rfl, rfl⟩⟩,
      ⟨rfl, rfl, by
        refine n_arrAddr (q := 4) rfl Try.underlying213 ti188 (by first | (simp only [nf, nfS, Nat.beq] <;> rfl) | rfl) (by first | (simp only [nf, nfS, Nat.beq] <;> rfl) | rfl) (by decide) (by decide) rfl ?_
        exact AOps.nil ⟨rfl, rfl, rfl⟩⟩,
      trivial⟩) ?_
  refine Walk.cases [([false, false], Ob.box (wzz d (.sl f (L.map etz) .full) U T ow ep jo nx) :: (S1 ++ [Ob.box (etz x)]), Ob.box (wzz d (.sl f (L.map etz) .full) U T ow ep jo nx) :: (S1 ++ [Ob.box (etz x)])), ([true, false], Ob.box (wzz d (.sl f (L.map etz) .full) U T ow ep jo nx) :: (S1 ++ [Ob.box (etz x), .box [.sl (some true) [] .full, vi 0]]), Ob.box (wzz d (.sl f (L.map etz) .full) U T ow ep jo nx) :: (S1 ++ [Ob.box (etz x), .box [.sl (some true) [] .full, vi 0]]))] (by rfl) (by kernel_rfl) (rs := [13]) (by rfl) (by first | (simp only [nf, nfS, Nat.beq] <;> rfl) | rfl) (fun base => ⟨
      ⟨rfl, rfl, by
        refine n_load rfl ti188 (by first | (simp only [nf, nfS, Nat.beq] <;> rfl) | rfl) (by first | (simp only [nf, nfS, Nat.beq] <;> rfl) | rfl) rfl (by first | (simp only [nf, nfS, Nat.beq] <;> rfl) | rfl) ?_
        exact AOps.nil ⟨rfl, rfl, rfl⟩⟩,
      ⟨rfl, rfl, by
        refine n_load rfl ti188 (by first | (simp only [nf, nfS, Nat.beq] <;> rfl) | rfl) (by first | (simp only [nf, nfS, Nat.beq] <;> rfl) | rfl) rfl (by first | (simp only [nf, nfS, Nat.beq] <;> rfl) | rfl) ?_
        exact AOps.nil ⟨rfl, rfl, rfl⟩⟩,
      trivial⟩) ?_
  refine Walk.cases [([false, false], Ob.box (wzz d (.sl f (L.map etz) .full) U T ow ep jo nx) :: (S1 ++ [Ob.box (etz x)]), Ob.box (wzz d (.sl f (L.map etz) .full) U T ow ep jo nx) :: (S1 ++ [Ob.box (etz x)])), ([true, false], Ob.box (wzz d (.sl f (L.map etz) .full) U T ow ep jo nx) :: (S1 ++ [Ob.box (etz x), .box [.sl (some true) [] .full, vi 0]]), Ob.box (wzz d (.sl f (L.map etz) .full) U T ow ep jo nx) :: (S1 ++ [Ob.box (etz x), .box [.sl (some true) [] .full, vi 0]]))] (by rfl) (by kernel_rfl) (rs := [5]) (by rfl) (by first | (simp only [nf, nfS, Nat.beq] <;> rfl) | rfl) (fun base => ⟨
      ⟨rfl, rfl, by
        refine n_fieldAddr rfl fd224_1 ti2 rfl (by first | (simp only [nf, nfS, Nat.beq] <;> rfl) | rfl) rfl (by first | (simp only [nf, nfS, Nat.beq] <;> rfl) | rfl) ?_
        exact AOps.nil ⟨rfl, rfl, rfl⟩⟩,
      ⟨rfl, rfl, by
        refine n_fieldAddr rfl fd224_1 ti2 rfl (by first | (simp only [nf, nfS, Nat.beq] <;> rfl) | rfl) rfl (by first | (simp only [nf, nfS, Nat.beq] <;> rfl) | rfl) ?_
        exact AOps.nil ⟨rfl, rfl, rfl⟩⟩,
      trivial⟩) ?_
  refine Walk.cases [([false, false], Ob.box (wzz d (.sl f (L.map etz) .full) U T ow ep jo nx) :: (S1 ++ [Ob.box (etz x)]), Ob.box (wzz d (.sl f (L.map etz) .full) U T ow ep jo nx) :: (S1 ++ [Ob.box (etz x)])), ([true, false], Ob.box (wzz d (.sl f (L.map etz) .full) U T ow ep jo nx) :: (S1 ++ [Ob.box (etz x), .box [.sl (some true) [] .full, vi 0]]), Ob.box (wzz d (.sl f (L.map etz) .full) U T ow ep jo nx) :: (S1 ++ [Ob.box (etz x), .box [.sl (some true) [] .full, vi 0]]))] (by rfl) (by kernel_rfl) (rs := [15]) (by rfl) (by first | (simp only [nf, nfS, Nat.beq] <;> rfl) | rfl) (fun base => ⟨
      ⟨rfl, rfl, by
        refine n_load rfl ti2 (by first | (simp only [nf, nfS, Nat.beq] <;> rfl) | rfl) (by first | (simp only [nf, nfS, Nat.beq] <;> rfl) | rfl) rfl (by first | (simp only [nf, nfS, Nat.beq] <;> rfl) | rfl) ?_
        exact AOps.nil ⟨rfl, rfl, rfl⟩⟩,
      ⟨rfl, rfl, by
        refine n_load rfl ti2 (by first | (simp only [nf, nfS, Nat.beq] <;> rfl) | rfl) (by first | (simp only [nf, nfS, Nat.beq] <;> rfl) | rfl) rfl (by first | (simp only [nf, nfS, Nat.beq] <;> rfl) | rfl) ?_
        exact AOps.nil ⟨rfl, rfl, rfl⟩⟩,
      trivial⟩) ?_
  refine Walk.cases [([false, false], Ob.box (wzz d (.sl f (L.map etz) .full) U T ow ep jo nx) :: (S1 ++ [Ob.box (etz x)]), Ob.box (wzz d (.sl f (L.map etz) .full) U T ow ep jo nx) :: (S1 ++ [Ob.box (etz x)])), ([true, false], Ob.box (wzz d (.sl f (L.map etz) .full) U T ow ep jo nx) :: (S1 ++ [Ob.box (etz x), .box [.sl (some true) [] .full, vi 0]]), Ob.box (wzz d (.sl f (L.map etz) .full) U T ow ep jo nx) :: (S1 ++ [Ob.box (etz x), .box [.sl (some true) [] .full, vi 0]]))] (by rfl) (by kernel_rfl) (rs := [5]) (by rfl) (by first | (simp only [nf, nfS, Nat.beq] <;> rfl) | rfl) (fun base => ⟨
      ⟨rfl, rfl, by
        refine n_fieldAddr rfl fd224_2 ti3 rfl (by first | (simp only [nf, nfS, Nat.beq] <;> rfl) | rfl) rfl (by first | (simp only [nf, nfS, Nat.beq] <;> rfl) | rfl) ?_
        exact AOps.nil ⟨rfl, rfl, rfl⟩⟩,
      ⟨rfl, rfl, by
        refine n_fieldAddr rfl fd224_2 ti3 rfl (by first | (simp only [nf, nfS, Nat.beq] <;> rfl) | rfl) rfl (by first | (simp only [nf, nfS, Nat.beq] <;> rfl) | rfl) ?_
        exact AOps.nil ⟨rfl, rfl, rfl⟩⟩,
      trivial⟩) ?_
  refine Walk.cases [([false, false], Ob.box (wzz d (.sl f (L.map etz) .full) U T ow ep jo nx) :: (S1 ++ [Ob.box (etz x)]), Ob.box (wzz d (.sl f (L.map etz) .full) U T ow ep jo nx) :: (S1 ++ [Ob.box (etz x)])), ([true, false], Ob.box (wzz d (.sl f (L.map etz) .full) U T ow ep jo nx) :: (S1 ++ [Ob.box (etz x), .box [.sl (some true) [] .full, vi 0]]), Ob.box (wzz d (.sl f (L.map etz) .full) U T ow ep jo nx) :: (S1 ++ [Ob.box (etz x), .box [.sl (some true) [] .full, vi 0]]))] (by rfl) (by kernel_rfl) (rs := [17]) (by rfl) (by first | (simp only [nf, nfS, Nat.beq] <;> rfl) | rfl) (fun base => ⟨
      ⟨rfl, rfl, by
        refine n_load rfl ti3 (by first | (simp only [nf, nfS, Nat.beq] <;> rfl) | rfl) (by first | (simp only [nf, nfS, Nat.beq] <;> rfl) | rfl) rfl (by first | (simp only [nf, nfS, Nat.beq] <;> rfl) | rfl) ?_
        exact AOps.nil ⟨rfl, rfl, rfl⟩⟩,
      ⟨rfl, rfl, by
        refine n_load rfl ti3 (by first | (simp only [nf, nfS, Nat.beq] <;> rfl) | rfl) (by first | (simp only [nf, nfS, Nat.beq] <;> rfl) | rfl) rfl (by first | (simp only [nf, nfS, Nat.beq] <;> rfl) | rfl) ?_
        exact AOps.nil ⟨rfl, rfl, rfl⟩⟩,
      trivial⟩) ?_
  refine Walk.cases [([false, false], Ob.box (wzz d (.sl f (L.map etz) .full) U T ow ep jo nx) :: (S1 ++ [Ob.box (etz x)]), Ob.box (wzz d (.sl f (L.map etz) .full) U T ow ep jo nx) :: (S1 ++ [Ob.box (etz x)])), ([true, false], Ob.box (wzz d (.sl f (L.map etz) .full) U T ow ep jo nx) :: (S1 ++ [Ob.box (etz x), .box [.sl (some true) [] .full, vi 0]]), Ob.box (wzz d (.sl f (L.map etz) .full) U T ow ep jo nx) :: (S1 ++ [Ob.box (etz x), .box [.sl (some true) [] .full, vi 0]]))] (by rfl) (by kernel_rfl) (rs := [1]) (by rfl) (by first | (simp only [nf, nfS, Nat.beq] <;> rfl) | rfl) (fun base => ⟨
      ⟨rfl, rfl, by
        refine n_move rfl (by first | (simp only [nf, nfS, Nat.beq] <;> rfl) | rfl) ?_
        exact AOps.nil ⟨rfl, rfl, rfl⟩⟩,
      ⟨rfl, rfl, by
        refine n_move rfl (by first | (simp only [nf, nfS, Nat.beq] <;> rfl) | rfl) ?_
        exact AOps.nil ⟨rfl, rfl, rfl⟩⟩,
      trivial⟩) ?_
  refine Walk.cases [([false, false], Ob.box (wzz d (.sl f (L.map etz) .full) U T ow ep jo nx) :: (S1 ++ [Ob.box (etz x)]), Ob.box (wzz d (.sl f (L.map etz) .full) U T ow ep jo nx) :: (S1 ++ [Ob.box (etz x)])), ([true, false], Ob.box (wzz d (.sl f (L.map etz) .full) U T ow ep jo nx) :: (S1 ++ [Ob.box (etz x), .box [.sl (some true) [] .full, vi 0]]), Ob.box (wzz d (.sl f (L.map etz) .full) U T ow ep jo nx) :: (S1 ++ [Ob.box (etz x), .box [.sl (some true) [] .full, vi 0]]))] (by rfl) (by kernel_rfl) (rs := [19]) (by rfl) (by first | (simp only [nf, nfS, Nat.beq] <;> rfl) | rfl) (fun base => ⟨
      ⟨rfl, rfl, by
        refine n_imul (c := 100 * 1) rfl (by first | (simp only [nf, nfS, Nat.beq] <;> rfl) | rfl) (by first | (simp only [nf, nfS, Nat.beq] <;> rfl) | rfl) (by omega) (by omega) (by omega) ?_
        exact AOps.nil ⟨rfl, rfl, rfl⟩⟩,
      ⟨rfl, rfl, by
        refine n_imul (c := 100 * 1) rfl (by first | (simp only [nf, nfS, Nat.beq] <;> rfl) | rfl) (by first | (simp only [nf, nfS, Nat.beq] <;> rfl) | rfl) (by omega) (by omega) (by omega) ?_
        exact AOps.nil ⟨rfl, rfl, rfl⟩⟩,
      trivial⟩) ?_
  refine Walk.cases [([false, false], Ob.box (wzz d (.sl f (L.map etz) .full) U T ow ep jo nx) :: (S1 ++ [Ob.box (etz x)]), Ob.box (wzz d (.sl f (L.map etz) .full) U T ow ep jo nx) :: (S1 ++ [Ob.box (etz x)])), ([true, false], Ob.box (wzz d (.sl f (L.map etz) .full) U T ow ep jo nx) :: (S1 ++ [Ob.box (etz x), .box [.sl (some true) [] .full, vi 0]]), Ob.box (wzz d (.sl f (L.map etz) .full) U T ow ep jo nx) :: (S1 ++ [Ob.box (etz x), .box [.sl (some true) [] .full, vi 0]]))] (by rfl) (by kernel_rfl) (rs := [0]) (by rfl) (by first | (simp only [nf, nfS, Nat.beq] <;> rfl) | rfl) (fun base => ⟨
      ⟨rfl, rfl, by
        refine n_move rfl (by first | (simp only [nf, nfS, Nat.beq] <;> rfl) | rfl) ?_
        exact AOps.nil ⟨rfl, rfl, rfl⟩⟩,
      ⟨rfl, rfl, by
        refine n_move rfl (by first | (simp only [nf, nfS, Nat.beq] <;> rfl) | rfl) ?_
        exact AOps.nil ⟨rfl, rfl, rfl⟩⟩,
      trivial⟩) ?_
  refine Walk.cases [([false, false], Ob.box (wzz d (.sl f (L.map etz) .full) U T ow ep jo nx) :: (S1 ++ [Ob.box (etz x)]), Ob.box (wzz d (.sl f (L.map etz) .full) U T ow ep jo nx) :: (S1 ++ [Ob.box (etz x)])), ([true, false], Ob.box (wzz d (.sl f (L.map etz) .full) U T ow ep jo nx) :: (S1 ++ [Ob.box (etz x), .box [.sl (some true) [] .full, vi 0]]), Ob.box (wzz d (.sl f (L.map etz) .full) U T ow ep jo nx) :: (S1 ++ [Ob.box (etz x), .box [.sl (some true) [] .full, vi 0]]))] (by rfl) (by kernel_rfl) (rs := [1]) (by rfl) (by first | (simp only [nf, nfS, Nat.beq] <;> rfl) | rfl) (fun base => ⟨
      ⟨rfl, rfl, by
        refine n_move rfl (by first | (simp only [nf, nfS, Nat.beq] <;> rfl) | rfl) ?_
        exact AOps.nil ⟨rfl, rfl, rfl⟩⟩,
      ⟨rfl, rfl, by
        refine n_move rfl (by first | (simp only [nf, nfS, Nat.beq] <;> rfl) | rfl) ?_
        exact AOps.nil ⟨rfl, rfl, rfl⟩⟩,
      trivial⟩) ?_
  refine Walk.cases [([false, false], Ob.box (wzz d (.sl f (L.map etz) .full) U T ow ep jo nx) :: (S1 ++ [Ob.box (etz x)]), Ob.box (wzz d (.sl f (L.map etz) .full) U T ow ep jo nx) :: (S1 ++ [Ob.box (etz x)])), ([true, false], Ob.box (wzz d (.sl f (L.map etz) .full) U T ow ep jo nx) :: (S1 ++ [Ob.box (etz x), .box [.sl (some true) [] .full, vi 0]]), Ob.box (wzz d (.sl f (L.map etz) .full) U T ow ep jo nx) :: (S1 ++ [Ob.box (etz x), .box [.sl (some true) [] .full, vi 0]]))] (by rfl) (by kernel_rfl) (rs := [21]) (by rfl) (by first | (simp only [nf, nfS, Nat.beq] <;> rfl) | rfl) (fun base => ⟨
      ⟨rfl, rfl, by
        refine n_nilCheck rfl (by first | (simp only [nf, nfS, Nat.beq] <;> rfl) | rfl) rfl ?_
        exact AOps.nil ⟨rfl, rfl, rfl⟩⟩,
      ⟨rfl, rfl, by
        refine n_nilCheck rfl (by first | (simp only [nf, nfS, Nat.beq] <;> rfl) | rfl) rfl ?_
        exact AOps.nil ⟨rfl, rfl, rfl⟩⟩,
      trivial⟩) ?_
  refine Walk.cases [([false, false], Ob.box (wzz d (.sl f (L.map etz) .full) U T ow ep jo nx) :: (S1 ++ [Ob.box (etz x)]), Ob.box (wzz d (.sl f (L.map etz) .full) U T ow ep jo nx) :: (S1 ++ [Ob.box (etz x)])), ([true, false], Ob.box (wzz d (.sl f (L.map etz) .full) U T ow ep jo nx) :: (S1 ++ [Ob.box (etz x), .box [.sl (some true) [] .full, vi 0]]), Ob.box (wzz d (.sl f (L.map etz) .full) U T ow ep jo nx) :: (S1 ++ [Ob.box (etz x), .box [.sl (some true) [] .full, vi 0]]))] (by rfl) (by kernel_rfl) (rs := [23]) (by rfl) (by first | (simp only [nf, nfS, Nat.beq] <;> rfl) | rfl) (fun base => ⟨
      ⟨rfl, rfl, by
        refine n_fieldAddr rfl fd217_0 ti215 rfl (by first | (simp only [nf, nfS, Nat.beq] <;> rfl) | rfl) rfl (by first | (simp only [nf, nfS, Nat.beq] <;> rfl) | rfl) ?_
        exact AOps.nil ⟨rfl, rfl, rfl⟩⟩,
      ⟨rfl, rfl, by
        refine n_fieldAddr rfl fd217_0 ti215 rfl (by first | (simp only [nf, nfS, Nat.beq] <;> rfl) | rfl) rfl (by first | (simp only [nf, nfS, Nat.beq] <;> rfl) | rfl) ?_
        exact AOps.nil ⟨rfl, rfl, rfl⟩⟩,
      trivial⟩) ?_
  refine Walk.cases [([false, false], Ob.box (wzz d (.sl f (L.map etz) .full) U T ow ep jo nx) :: (S1 ++ [Ob.box (etz x)]), Ob.box (wzz d (.sl f (L.map etz) .full) U T ow ep jo nx) :: (S1 ++ [Ob.box (etz x)])), ([true, false], Ob.box (wzz d (.sl f (L.map etz) .full) U T ow ep jo nx) :: (S1 ++ [Ob.box (etz x), .box [.sl (some true) [] .full, vi 0]]), Ob.box (wzz d (.sl f (L.map etz) .full) U T ow ep jo nx) :: (S1 ++ [Ob.box (etz x), .box [.sl (some true) [] .full, vi 0]]))] (by rfl) (by kernel_rfl) (rs := [24, 22]) (by rfl) (by first | (simp only [nf, nfS, Nat.beq] <;> rfl) | rfl) (fun base => ⟨
      ⟨rfl, rfl, by
        refine n_arrAddr (q := 1) rfl Try.underlying215 ti214 (by first | (simp only [nf, nfS, Nat.beq] <;> rfl) | rfl) (by first | (simp only [nf, nfS, Nat.beq] <;> rfl) | rfl) (by decide) (by decide) rfl ?_
        exact AOps.nil ⟨rfl, rfl, rfl⟩⟩,
      ⟨rfl, rfl, by
        refine n_arrAddr (q := 1) rfl Try.underlying215 ti214 (by first | (simp only [nf, nfS, Nat.beq] <;> rfl) | rfl) (by first | (simp only [nf, nfS, Nat.beq] <;> rfl) | rfl) (by decide) (by decide) rfl ?_
        exact AOps.nil ⟨rfl, rfl, rfl⟩⟩,
      trivial⟩) ?_
  refine Walk.cases [([false, false], Ob.box (wzz d (.sl f (L.map etz) .full) U T ow ep jo nx) :: (S1 ++ [Ob.box (etz x)]), Ob.box (wzz d (.sl f (L.map etz) .full) U T ow ep jo nx) :: (S1 ++ [Ob.box (etz x)])), ([true, false], Ob.box (wzz d (.sl f (L.map etz) .full) U T ow ep jo nx) :: (S1 ++ [Ob.box (etz x), .box [.sl (some true) [] .full, vi 0]]), Ob.box (wzz d (.sl f (L.map etz) .full) U T ow ep jo nx) :: (S1 ++ [Ob.box (etz x), .box [.sl (some true) [] .full, vi 0]]))] (by rfl) (by kernel_rfl) (rs := [25]) (by rfl) (by first | (simp only [nf, nfS, Nat.beq] <;> rfl) | rfl) (fun base => ⟨
      ⟨rfl, rfl, by
        refine n_load rfl ti214 (by first | (simp only [nf, nfS, Nat.beq] <;> rfl) | rfl) (by first | (simp only [nf, nfS, Nat.beq] <;> rfl) | rfl) rfl (by first | (simp only [nf, nfS, Nat.beq] <;> rfl) | rfl) ?_
        exact AOps.nil ⟨rfl, rfl, rfl⟩⟩,
      ⟨rfl, rfl, by
        refine n_load rfl ti214 (by first | (simp only [nf, nfS, Nat.beq] <;> rfl) | rfl) (by first | (simp only [nf, nfS, Nat.beq] <;> rfl) | rfl) rfl (by first | (simp only [nf, nfS, Nat.beq] <;> rfl) | rfl) ?_
        exact AOps.nil ⟨rfl, rfl, rfl⟩⟩,
      trivial⟩) ?_
  refine Walk.cases [([false, false], Ob.box (wzz d (.sl f (L.map etz) .full) U T ow ep jo nx) :: (S1 ++ [Ob.box (etz x)]), Ob.box (wzz d (.sl f (L.map etz) .full) U T ow ep jo nx) :: (S1 ++ [Ob.box (etz x)])), ([true, false], Ob.box (wzz d (.sl f (L.map etz) .full) U T ow ep jo nx) :: (S1 ++ [Ob.box (etz x), .box [.sl (some true) [] .full, vi 0]]), Ob.box (wzz d (.sl f (L.map etz) .full) U T ow ep jo nx) :: (S1 ++ [Ob.box (etz x), .box [.sl (some true) [] .full, vi 0]]))] (by rfl) (by kernel_rfl) (rs := [26]) (by rfl) (by first | (simp only [nf, nfS, Nat.beq] <;> rfl) | rfl) (fun base => ⟨
      ⟨rfl, rfl, by
        refine n_len rfl Try.underlying214 (by first | (simp only [nf, nfS, Nat.beq] <;> rfl) | rfl) (n := (L.length : Int)) (by rw [List.length_map]) ?_
        exact AOps.nil ⟨rfl, rfl, rfl⟩⟩,
      ⟨rfl, rfl, by
        refine n_len rfl Try.underlying214 (by first | (simp only [nf, nfS, Nat.beq] <;> rfl) | rfl) (n := (L.length : Int)) (by rw [List.length_map]) ?_
        exact AOps.nil ⟨rfl, rfl, rfl⟩⟩,
      trivial⟩) ?_
  refine Walk.cases [([false, false], Ob.box (wzz d (.sl f (L.map etz) .full) U T ow ep jo nx) :: (S1 ++ [Ob.box (etz x)]), Ob.box (wzz d (.sl f (L.map etz) .full) U T ow ep jo nx) :: (S1 ++ [Ob.box (etz x)])), ([true, false], Ob.box (wzz d (.sl f (L.map etz) .full) U T ow ep jo nx) :: (S1 ++ [Ob.box (etz x), .box [.sl (some true) [] .full, vi 0]]), Ob.box (wzz d (.sl f (L.map etz) .full) U T ow ep jo nx) :: (S1 ++ [Ob.box (etz x), .box [.sl (some true) [] .full, vi 0]]))] (by rfl) (by kernel_rfl) (rs := [20, 27]) (by rfl) (by first | (simp only [nf, nfS, Nat.beq] <;> rfl) | rfl) (fun base => ⟨
      ⟨rfl, rfl, by
        refine n_iadd rfl (by first | (simp only [nf, nfS, Nat.beq] <;> rfl) | rfl) (by first | (simp only [nf, nfS, Nat.beq] <;> rfl) | rfl) rfl (by omega) (by omega) ?_
        exact AOps.nil ⟨rfl, rfl, rfl⟩⟩,
      ⟨rfl, rfl, by
        refine n_iadd rfl (by first | (simp only [nf, nfS, Nat.beq] <;> rfl) | rfl) (by first | (simp only [nf, nfS, Nat.beq] <;> rfl) | rfl) rfl (by omega) (by omega) ?_
        exact AOps.nil ⟨rfl, rfl, rfl⟩⟩,
      trivial⟩) ?_
  refine Walk.cases [([false, false], Ob.box (wzz d (.sl f (L.map etz) .full) U T ow ep jo nx) :: (S1 ++ [Ob.box (etz x)]), Ob.box (wzz d (.sl f (L.map etz) .full) U T ow ep jo nx) :: (S1 ++ [Ob.box (etz x)])), ([true, false], Ob.box (wzz d (.sl f (L.map etz) .full) U T ow ep jo nx) :: (S1 ++ [Ob.box (etz x), .box [.sl (some true) [] .full, vi 0]]), Ob.box (wzz d (.sl f (L.map etz) .full) U T ow ep jo nx) :: (S1 ++ [Ob.box (etz x), .box [.sl (some true) [] .full, vi 0]]))] (by rfl) (by kernel_rfl) (rs := [14, 16, 18, 28]) (by rfl) (by first | (simp only [nf, nfS, Nat.beq] <;> rfl) | rfl) (fun base => ⟨
      ⟨rfl, rfl, by
        refine n_call0B rfl cf223 rfl (Eq.trans (by simp only [nl] <;> rfl) (by first | (simp only [nf, nfS, Nat.beq] <;> rfl) | rfl)) (by repeat (first | exact .nil | refine .cons ?_ ?_ | exact ren_ints | exact .lf (.val _) | exact .lf (lf_ints (.inl rfl)) | exact .bp ⟨rfl, rfl⟩ | exact .bp (.inl ⟨rfl, rfl⟩) | exact .bp (.inr ⟨rfl, rfl⟩) | exact ren_nil0 | exact .lf (lf_fnrp (lf_cons (.val _) lf_nil)) | exact .lf (.rp (lf_cons (.val _) lf_nil)) | exact .bs ⟨rfl, rfl⟩ | exact .lf (D.flat_lf rfl) | exact ren_map (f := spz) (fun _ => rfl) | exact .lf (lf_tz _) | exact ren_tz | exact .lf (.fn (fun d h => by cases h) (fun d h => by cases h)) | exact .lf (lf_fnrp (lf_rp1 (f := spz) (fun _ => rfl))) | exact .ro (by intro x hx; simp only [List.mem_cons, List.not_mem_nil, or_false] at hx; rcases hx with rfl | rfl <;> exact flats_lf rfl))) (hadd) (by first | exact .val _ | exact lf_ints (.inl rfl) | exact lf_ints (.inr rfl) | exact .any | exact lf_nil0 | exact lf_fnrp (lf_cons (.val _) lf_nil) | exact D.flat_lf rfl | exact lf_map (f := spz) (fun _ => rfl) (.inl rfl) | exact lf_tz _ | exact .tup (lf_cons (lf_tz _) (lf_cons (.val _) lf_nil)) | exact lf_fnrp (lf_rp1 (f := spz) (fun _ => rfl))) ?_
        exact AOps.nil ⟨rfl, rfl, rfl⟩⟩,
      ⟨rfl, rfl, by
        refine n_call0B rfl cf223 rfl (Eq.trans (by simp only [nl] <;> rfl) (by first | (simp only [nf, nfS, Nat.beq] <;> rfl) | rfl)) (by repeat (first | exact .nil | refine .cons ?_ ?_ | exact ren_ints | exact .lf (.val _) | exact .lf (lf_ints (.inl rfl)) | exact .bp ⟨rfl, rfl⟩ | exact .bp (.inl ⟨rfl, rfl⟩) | exact .bp (.inr ⟨rfl, rfl⟩) | exact ren_nil0 | exact .lf (lf_fnrp (lf_cons (.val _) lf_nil)) | exact .lf (.rp (lf_cons (.val _) lf_nil)) | exact .bs ⟨rfl, rfl⟩ | exact .lf (D.flat_lf rfl) | exact ren_map (f := spz) (fun _ => rfl) | exact .lf (lf_tz _) | exact ren_tz | exact .lf (.fn (fun d h => by cases h) (fun d h => by cases h)) | exact .lf (lf_fnrp (lf_rp1 (f := spz) (fun _ => rfl))) | exact .ro (by intro x hx; simp only [List.mem_cons, List.not_mem_nil, or_false] at hx; rcases hx with rfl | rfl <;> exact flats_lf rfl))) (hadd) (by first | exact .val _ | exact lf_ints (.inl rfl) | exact lf_ints (.inr rfl) | exact .any | exact lf_nil0 | exact lf_fnrp (lf_cons (.val _) lf_nil) | exact D.flat_lf rfl | exact lf_map (f := spz) (fun _ => rfl) (.inl rfl) | exact lf_tz _ | exact .tup (lf_cons (lf_tz _) (lf_cons (.val _) lf_nil)) | exact lf_fnrp (lf_rp1 (f := spz) (fun _ => rfl))) ?_
        exact AOps.nil ⟨rfl, rfl, rfl⟩⟩,
      trivial⟩) ?_
  refine Walk.cases [([false, false], Ob.box (wzz d (.sl f (L.map etz) .full) U T ow ep jo nx) :: (S1 ++ [Ob.box (etz x)]), Ob.box (wzz d (.sl f (L.map etz) .full) U T ow ep jo nx) :: (S1 ++ [Ob.box (etz x)])), ([true, false], Ob.box (wzz d (.sl f (L.map etz) .full) U T ow ep jo nx) :: (S1 ++ [Ob.box (etz x), .box [.sl (some true) [] .full, vi 0]]), Ob.box (wzz d (.sl f (L.map etz) .full) U T ow ep jo nx) :: (S1 ++ [Ob.box (etz x), .box [.sl (some true) [] .full, vi 0]]))] (by rfl) (by kernel_rfl) (rs := [29]) (by rfl) (by first | (simp only [nf, nfS, Nat.beq] <;> rfl) | rfl) (fun base => ⟨
      ⟨rfl, rfl, by
        refine n_move rfl (by first | (simp only [nf, nfS, Nat.beq] <;> rfl) | rfl) ?_
        exact AOps.nil ⟨rfl, rfl, rfl⟩⟩,
      ⟨rfl, rfl, by
        refine n_move rfl (by first | (simp only [nf, nfS, Nat.beq] <;> rfl) | rfl) ?_
        exact AOps.nil ⟨rfl, rfl, rfl⟩⟩,
      trivial⟩) ?_
  refine Walk.cases [([false, false], Ob.box (wzz d (.sl f (L.map etz) .full) U T ow ep jo nx) :: (S1 ++ [Ob.box (etz x)]), Ob.box (wzz d (.sl f (L.map etz) .full) U T ow ep jo nx) :: (S1 ++ [Ob.box (etz x)])), ([true, false], Ob.box (wzz d (.sl f (L.map etz) .full) U T ow ep jo nx) :: (S1 ++ [Ob.box (etz x), .box [.sl (some true) [] .full, vi 0]]), Ob.box (wzz d (.sl f (L.map etz) .full) U T ow ep jo nx) :: (S1 ++ [Ob.box (etz x), .box [.sl (some true) [] .full, vi 0]]))] (by rfl) (by kernel_rfl) (rs := [8]) (by rfl) (by first | (simp only [nf, nfS, Nat.beq] <;> rfl) | rfl) (fun base => ⟨
      ⟨rfl, rfl, by
        refine n_extract rfl (by first | (simp only [nf, nfS, Nat.beq] <;> rfl) | rfl) rfl ?_
        exact AOps.nil ⟨rfl, rfl, rfl⟩⟩,
      ⟨rfl, rfl, by
        refine n_extract rfl (by first | (simp only [nf, nfS, Nat.beq] <;> rfl) | rfl) rfl ?_
        exact AOps.nil ⟨rfl, rfl, rfl⟩⟩,
      trivial⟩) ?_
  refine Walk.cases [([false, false], Ob.box (wzz d (.sl f (L.map etz) .full) U T ow ep jo nx) :: (S1 ++ [Ob.box (etz x)]), Ob.box (wzz d (.sl f (L.map etz) .full) U T ow ep jo nx) :: (S1 ++ [Ob.box (etz x)])), ([true, false], Ob.box (wzz d (.sl f (L.map etz) .full) U T ow ep jo nx) :: (S1 ++ [Ob.box (etz x), .box [.sl (some true) [] .full, vi 0]]), Ob.box (wzz d (.sl f (L.map etz) .full) U T ow ep jo nx) :: (S1 ++ [Ob.box (etz x), .box [.sl (some true) [] .full, vi 0]])), ([true, true], Ob.box (wzz d (.sl f (L.map etz) .full) U T ow ep jo nx) :: (S1 ++ [Ob.box (etz x), Ob.box [.sl none (T'.l.map spz) .ro, vi T'.n]]), Ob.box (wzz d (.sl f (L.map etz) .full) U T ow ep jo nx) :: (S1 ++ [Ob.box (etz x), Ob.box [.sl none (T'.l.map spz) .ro, vi T'.n]]))] (by rfl) (by kernel_rfl) (rs := [8]) (by rfl) (by first | (simp only [nf, nfS, Nat.beq] <;> rfl) | rfl) (fun base => ⟨
      ⟨rfl, rfl, by
        refine n_extract rfl (by first | (simp only [nf, nfS, Nat.beq] <;> rfl) | rfl) rfl ?_
        exact AOps.nil ⟨rfl, rfl, rfl⟩⟩,
      ⟨rfl, rfl, by
        refine n_extract rfl (by first | (simp only [nf, nfS, Nat.beq] <;> rfl) | rfl) rfl ?_
        exact AOps.nil ⟨rfl, rfl, rfl⟩⟩,
      ⟨rfl, rfl, by
        refine n_extract rfl (by first | (simp only [nf, nfS, Nat.beq] <;> rfl) | rfl) rfl ?_
        exact AOps.nil ⟨rfl, rfl, rfl⟩⟩,
      trivial⟩) ?_
  refine Walk.cases [([false, false], Ob.box (wzz d (.sl f (L.map etz) .full) U T ow ep jo nx) :: (S1 ++ [Ob.box (etz x)]), Ob.box (wzz d (.sl f (L.map etz) .full) U T ow ep jo nx) :: (S1 ++ [Ob.box (etz x), .box [.sl (some true) [] .full, vi 0]]))] (by rfl) (by kernel_rfl) (rs := []) (by rfl) (by first | (simp only [nf, nfS, Nat.beq] <;> rfl) | rfl) (fun base => ⟨
      ⟨rfl, rfl, by
        refine n_alloc rfl zi188 rfl (by first | (simp only [nf, nfS, Nat.beq] <;> rfl) | rfl) (by first | (simp only [nf, nfS, Nat.beq] <;> rfl) | rfl) ?_
        exact AOps.nil ⟨rfl, rfl, rfl⟩⟩,
      trivial⟩) ?_
  refine Walk.cases (d := .any) [([true, false], Ob.box (wzz d (.sl f (L.map etz) .full) U T ow ep jo nx) :: (S1 ++ [Ob.box (etz x), .box [.sl (some true) [] .full, vi 0]]), Ob.box (wzz d (.sl f (L.map etz) .full) U T ow ep jo nx) :: (S1 ++ [Ob.box (etz x), Ob.box [.sl none (T'.l.map spz) .ro, vi T'.n]]))] (by rfl) (by kernel_rfl) (rs := [6, 30]) (by rfl) (by first | (simp only [nf, nfS, Nat.beq] <;> rfl) | rfl) (fun base => ⟨
      ⟨rfl, rfl, by
        refine n_store ti188 (by first | (simp only [nf, nfS, Nat.beq] <;> rfl) | rfl) (by first | (simp only [nf, nfS, Nat.beq] <;> rfl) | rfl) (by first | (simp only [nf, nfS, Nat.beq] <;> rfl) | rfl) rfl (by first | (simp only [nf, nfS, Nat.beq] <;> rfl) | rfl) rfl rfl rfl (by first | (simp only [nf, nfS, Nat.beq] <;> rfl) | rfl) ?_
        exact AOps.nil ⟨rfl, rfl, rfl⟩⟩,
      trivial⟩) ?_
  refine Walk.cases [([true, true], Ob.box (wzz d (.sl f (L.map etz) .full) U T ow ep jo nx) :: (S1 ++ [Ob.box (etz x), Ob.box [.sl none (T'.l.map spz) .ro, vi T'.n]]), Ob.box (wzz d (.sl f (L.map etz) .full) U T ow ep jo nx) :: (S1 ++ [Ob.box (etz x), Ob.box [.sl none (T'.l.map spz) .ro, vi T'.n]]))] (by rfl) (by kernel_rfl) (rs := [31]) (by rfl) (by first | (simp only [nf, nfS, Nat.beq] <;> rfl) | rfl) (fun base => ⟨
      ⟨rfl, rfl, by
        refine n_assign rfl (by first | (simp only [nf, nfS, Nat.beq] <;> rfl) | rfl) ?_
        exact AOps.nil ⟨rfl, rfl, rfl⟩⟩,
      trivial⟩) ?_
  refine Walk.done ?_
  refine AWP.seq ?_
  refine AWP.region ?_
  refine n_move rfl (by first | (simp only [nf, nfS, Nat.beq] <;> rfl) | rfl) ?_
  refine n_move rfl (by first | (simp only [nf, nfS, Nat.beq] <;> rfl) | rfl) ?_
  refine n_nilCheck rfl (by first | (simp only [nf, nfS, Nat.beq] <;> rfl) | rfl) rfl ?_
  refine n_fieldAddr rfl fd217_6 ti4 rfl (by first | (simp only [nf, nfS, Nat.beq] <;> rfl) | rfl) rfl (by first | (simp only [nf, nfS, Nat.beq] <;> rfl) | rfl) ?_
  refine n_load rfl ti4 (by first | (simp only [nf, nfS, Nat.beq] <;> rfl) | rfl) (by first | (simp only [nf, nfS, Nat.beq] <;> rfl) | rfl) rfl (by first | (simp only [nf, nfS, Nat.beq] <;> rfl) | rfl) ?_
  refine n_move rfl (by first | (simp only [nf, nfS, Nat.beq] <;> rfl) | rfl) ?_
  refine n_guard_yes rfl rfl rfl (by first | (simp only [nf, nfS, Nat.beq] <;> rfl) | rfl) rfl ?_
  refine n_move rfl (by first | (simp only [nf, nfS, Nat.beq] <;> rfl) | rfl) ?_
  refine n_guard_yes rfl rfl rfl (by first | (simp only [nf, nfS, Nat.beq] <;> rfl) | rfl) rfl ?_
  refine n_ibin rfl (by first | (simp only [nf, nfS, Nat.beq] <;> rfl) | rfl) (by first | (simp only [nf, nfS, Nat.beq] <;> rfl) | rfl) rfl ?_
  refine n_pick rfl (by first | (simp only [nf, nfS, Nat.beq] <;> rfl) | rfl) (by first | (simp only [nf, nfS, Nat.beq] <;> rfl) | rfl) ?_
  refine n_nilCheck rfl (by first | (simp only [nf, nfS, Nat.beq] <;> rfl) | rfl) rfl ?_
  refine n_fieldAddr rfl fd217_6 ti4 rfl (by first | (simp only [nf, nfS, Nat.beq] <;> rfl) | rfl) rfl (by first | (simp only [nf, nfS, Nat.beq] <;> rfl) | rfl) ?_
  refine n_store ti4 (by first | (simp only [nf, nfS, Nat.beq] <;> rfl) | rfl) (by first | (simp only [nf, nfS, Nat.beq] <;> rfl) | rfl) (by first | (simp only [nf, nfS, Nat.beq] <;> rfl) | rfl) rfl (by first | (simp only [nf, nfS, Nat.beq] <;> rfl) | rfl) rfl rfl rfl (by first | (simp only [nf, nfS, Nat.beq] <;> rfl) | rfl) ?_
  refine AOps.nil ?_
  refine AWP.seq ?_
  refine AWP.any1 6 (Ob.box (wzz d (.sl f (L.map etz) .full) U T' ow ep jo nx) :: (S1 ++ [Ob.box (etz x), Ob.box [.sl none (T'.l.map spz) .ro, vi T'.n]])) (by kernel_rfl) (by kernel_rfl) (by kernel_rfl) ?_
  refine Walk.ahead [6] (by rfl) (by kernel_rfl) (by rfl) (rs := [0]) (by rfl) (by first | (simp only [nf, nfS, Nat.beq] <;> rfl) | rfl) (fun base => by
      refine n_move rfl (by first | (simp only [nf, nfS, Nat.beq] <;> rfl) | rfl) ?_
      exact AOps.nil ⟨rfl, rfl, rfl⟩) ?_
  refine Walk.ahead [6] (by rfl) (by kernel_rfl) (by rfl) (rs := [1]) (by rfl) (by first | (simp only [nf, nfS, Nat.beq] <;> rfl) | rfl) (fun base => by
      refine n_move rfl (by first | (simp only [nf, nfS, Nat.beq] <;> rfl) | rfl) ?_
      exact AOps.nil ⟨rfl, rfl, rfl⟩) ?_
  refine Walk.ahead [6] (by rfl) (by kernel_rfl) (by rfl) (rs := [6]) (by rfl) (by first | (simp only [nf, nfS, Nat.beq] <;> rfl) | rfl) (fun base => by
      refine n_load rfl ti188 (by first | (simp only [nf, nfS, Nat.beq] <;> rfl) | rfl) (by first | (simp only [nf, nfS, Nat.beq] <;> rfl) | rfl) rfl (by first | (simp only [nf, nfS, Nat.beq] <;> rfl) | rfl) ?_
      exact AOps.nil ⟨rfl, rfl, rfl⟩) ?_
  refine Walk.ahead [4, 5, 6] (by rfl) (by kernel_rfl) (by rfl) (rs := [43]) (by rfl) (by first | (simp only [nf, nfS, Nat.beq] <;> rfl) | rfl) (fun base => by
      refine n_nilCheck rfl (by first | (simp only [nf, nfS, Nat.beq] <;> rfl) | rfl) rfl ?_
      exact AOps.nil ⟨rfl, rfl, rfl⟩) ?_
  refine Walk.ahead [5, 6] (by rfl) (by kernel_rfl) (by rfl) (rs := [46]) (by rfl) (by first | (simp only [nf, nfS, Nat.beq] <;> rfl) | rfl) (fun base => by
      refine n_fieldAddr rfl fd217_1 ti213 rfl (by first | (simp only [nf, nfS, Nat.beq] <;> rfl) | rfl) rfl (by first | (simp only [nf, nfS, Nat.beq] <;> rfl) | rfl) ?_
      exact AOps.nil ⟨rfl, rfl, rfl⟩) ?_
  refine Walk.ahead [6] (by rfl) (by kernel_rfl) (by rfl) (rs := [47, 44]) (by rfl) (by first | (simp only [nf, nfS, Nat.beq] <;> rfl) | rfl) (fun base => by
      refine n_arrAddr (q := 4) rfl Try.underlying213 ti188 (by first | (simp only [nf, nfS, Nat.beq] <;> rfl) | rfl) (by first | (simp only [nf, nfS, Nat.beq] <;> rfl) | rfl) (by decide) (by decide) rfl ?_
      exact AOps.nil ⟨rfl, rfl, rfl⟩) ?_
  refine Walk.writes (d := .any) (by rfl) (rs := [48, 45]) (by rfl) (by first | (simp only [nf, nfS, Nat.beq] <;> rfl) | rfl) (fun base => by
      refine n_store ti188 (by first | (simp only [nf, nfS, Nat.beq] <;> rfl) | rfl) (by first | (simp only [nf, nfS, Nat.beq] <;> rfl) | rfl) (by first | (simp only [nf, nfS, Nat.beq] <;> rfl) | rfl) rfl (by first | (simp only [nf, nfS, Nat.beq] <;> rfl) | rfl) rfl rfl rfl (by first | (simp only [nf, nfS, Nat.beq] <;> rfl) | rfl) ?_
      exact AOps.nil ⟨rfl, rfl, rfl⟩) ?_
  refine Walk.done ?_
  refine AWP.anyT [10, 14] (fun p => match p with | [false, false] => Ob.box (wzz d (.sl f (L.map etz) .full) U T' ow ep jo nx) :: (S1 ++ [Ob.box (etz x), Ob.box [.sl none (T'.l.map spz) .ro, vi T'.n]]) | [true, false] => Ob.box (wzz d (.sl f (L.map etz) .full) U T' ow ep jo nx) :: (S1 ++ [Ob.box (etz x), Ob.box [.sl none (T'.l.map spz) .ro, vi T'.n], Ob.row (L.length + 1) 3]) | [true, true] => Ob.box (wzz d (.sl none ((L ++ [x]).map etz) (.own (S1.length + 2 + 1))) U T' ow ep jo nx) :: (S1 ++ [Ob.box (etz x), Ob.box [.sl none (T'.l.map spz) .ro, vi T'.n], Ob.row (L.length + 1) 3]) | _ => []) (by kernel_rfl) (by kernel_rfl) rfl rfl ?_
  refine Walk.cases [([false, false], Ob.box (wzz d (.sl f (L.map etz) .full) U T' ow ep jo nx) :: (S1 ++ [Ob.box (etz x), Ob.box [.sl none (T'.l.map spz) .ro, vi T'.n]]), Ob.box (wzz d (.sl f (L.map etz) .full) U T' ow ep jo nx) :: (S1 ++ [Ob.box (etz x), Ob.box [.sl none (T'.l.map spz) .ro, vi T'.n]])), ([true, false], Ob.box (wzz d (.sl f (L.map etz) .full) U T' ow ep jo nx) :: (S1 ++ [Ob.box (etz x), Ob.box [.sl none (T'.l.map spz) .ro, vi T'.n], Ob.row (L.length + 1) 3]), Ob.box (wzz d (.sl f (L.map etz) .full) U T' ow ep jo nx) :: (S1 ++ [Ob.box (etz x), Ob.box [.sl none (T'.l.map spz) .ro, vi T'.n], Ob.row (L.length + 1) 3]))] (by rfl) (by kernel_rfl) (rs := [0]) (by rfl) (by first | (simp only [nf, nfS, Nat.beq] <;> rfl) | rfl) (fun base => ⟨
      ⟨rfl, rfl, by
        refine n_move rfl (by first | (simp only [nf, nfS, Nat.beq] <;> rfl) | rfl) ?_
        exact AOps.nil ⟨rfl, rfl, rfl⟩⟩,
      ⟨rfl, rfl, by
        refine n_move rfl (by first | (simp only [nf, nfS, Nat.beq] <;> rfl) | rfl) ?_
        exact AOps.nil ⟨rfl, rfl, rfl⟩⟩,
      trivial⟩) ?_
  refine Walk.cases [([false, false], Ob.box (wzz d (.sl f (L.map etz) .full) U T' ow ep jo nx) :: (S1 ++ [Ob.box (etz x), Ob.box [.sl none (T'.l.map spz) .ro, vi T'.n]]), Ob.box (wzz d (.sl f (L.map etz) .full) U T' ow ep jo nx) :: (S1 ++ [Ob.box (etz x), Ob.box [.sl none (T'.l.map spz) .ro, vi T'.n]])), ([true, false], Ob.box (wzz d (.sl f (L.map etz) .full) U T' ow ep jo nx) :: (S1 ++ [Ob.box (etz x), Ob.box [.sl none (T'.l.map spz) .ro, vi T'.n], Ob.row (L.length + 1) 3]), Ob.box (wzz d (.sl f (L.map etz) .full) U T' ow ep jo nx) :: (S1 ++ [Ob.box (etz x), Ob.box [.sl none (T'.l.map spz) .ro, vi T'.n], Ob.row (L.length + 1) 3]))] (by rfl) (by kernel_rfl) (rs := [1]) (by rfl) (by first | (simp only [nf, nfS, Nat.beq] <;> rfl) | rfl) (fun base => ⟨
      ⟨rfl, rfl, by
        refine n_move rfl (by first | (simp only [nf, nfS, Nat.beq] <;> rfl) | rfl) ?_
        exact AOps.nil ⟨rfl, rfl, rfl⟩⟩,
      ⟨rfl, rfl, by
        refine n_move rfl (by first | (simp only [nf, nfS, Nat.beq] <;> rfl) | rfl) ?_
        exact AOps.nil ⟨rfl, rfl, rfl⟩⟩,
      trivial⟩) ?_
  refine Walk.cases [([false, false], Ob.box (wzz d (.sl f (L.map etz) .full) U T' ow ep jo nx) :: (S1 ++ [Ob.box (etz x), Ob.box [.sl none (T'.l.map spz) .ro, vi T'.n]]), Ob.box (wzz d (.sl f (L.map etz) .full) U T' ow ep jo nx) :: (S1 ++ [Ob.box (etz x), Ob.box [.sl none (T'.l.map spz) .ro, vi T'.n]]))] (by rfl) (by kernel_rfl) (rs := [0]) (by rfl) (by first | (simp only [nf, nfS, Nat.beq] <;> rfl) | rfl) (fun base => ⟨
      ⟨rfl, rfl, by
        refine n_move rfl (by first | (simp only [nf, nfS, Nat.beq] <;> rfl) | rfl) ?_
        exact AOps.nil ⟨rfl, rfl, rfl⟩⟩,
      trivial⟩) ?_
  refine Walk.cases [([false, false], Ob.box (wzz d (.sl f (L.map etz) .full) U T' ow ep jo nx) :: (S1 ++ [Ob.box (etz x), Ob.box [.sl none (T'.l.map spz) .ro, vi T'.n]]), Ob.box (wzz d (.sl f (L.map etz) .full) U T' ow ep jo nx) :: (S1 ++ [Ob.box (etz x), Ob.box [.sl none (T'.l.map spz) .ro, vi T'.n]]))] (by rfl) (by kernel_rfl) (rs := [1]) (by rfl) (by first | (simp only [nf, nfS, Nat.beq] <;> rfl) | rfl) (fun base => ⟨
      ⟨rfl, rfl, by
        refine n_move rfl (by first | (simp only [nf, nfS, Nat.beq] <;> rfl) | rfl) ?_
        exact AOps.nil ⟨rfl, rfl, rfl⟩⟩,
      trivial⟩) ?_
  refine Walk.cases [([false, false], Ob.box (wzz d (.sl f (L.map etz) .full) U T' ow ep jo nx) :: (S1 ++ [Ob.box (etz x), Ob.box [.sl none (T'.l.map spz) .ro, vi T'.n]]), Ob.box (wzz d (.sl f (L.map etz) .full) U T' ow ep jo nx) :: (S1 ++ [Ob.box (etz x), Ob.box [.sl none (T'.l.map spz) .ro, vi T'.n]]))] (by rfl) (by kernel_rfl) (rs := [51]) (by rfl) (by first | (simp only [nf, nfS, Nat.beq] <;> rfl) | rfl) (fun base => ⟨
      ⟨rfl, rfl, by
        refine n_nilCheck rfl (by first | (simp only [nf, nfS, Nat.beq] <;> rfl) | rfl) rfl ?_
        exact AOps.nil ⟨rfl, rfl, rfl⟩⟩,
      trivial⟩) ?_
  refine Walk.cases [([false, false], Ob.box (wzz d (.sl f (L.map etz) .full) U T' ow ep jo nx) :: (S1 ++ [Ob.box (etz x), Ob.box [.sl none (T'.l.map spz) .ro, vi T'.n]]), Ob.box (wzz d (.sl f (L.map etz) .full) U T' ow ep jo nx) :: (S1 ++ [Ob.box (etz x), Ob.box [.sl none (T'.l.map spz) .ro, vi T'.n]]))] (by rfl) (by kernel_rfl) (rs := [53]) (by rfl) (by first | (simp only [nf, nfS, Nat.beq] <;> rfl) | rfl) (fun base => ⟨
      ⟨rfl, rfl, by
        refine n_fieldAddr rfl fd217_0 ti215 rfl (by first | (simp only [nf, nfS, Nat.beq] <;> rfl) | rfl) rfl (by first | (simp only [nf, nfS, Nat.beq] <;> rfl) | rfl) ?_
        exact AOps.nil ⟨rfl, rfl, rfl⟩⟩,
      trivial⟩) ?_
  refine Walk.cases [([false, false], Ob.box (wzz d (.sl f (L.map etz) .full) U T' ow ep jo nx) :: (S1 ++ [Ob.box (etz x), Ob.box [.sl none (T'.l.map spz) .ro, vi T'.n]]), Ob.box (wzz d (.sl f (L.map etz) .full) U T' ow ep jo nx) :: (S1 ++ [Ob.box (etz x), Ob.box [.sl none (T'.l.map spz) .ro, vi T'.n]]))] (by rfl) (by kernel_rfl) (rs := [54, 52]) (by rfl) (by first | (simp only [nf, nfS, Nat.beq] <;> rfl) | rfl) (fun base => ⟨
      ⟨rfl, rfl, by
        refine n_arrAddr (q := 1) rfl Try.underlying215 ti214 (by first | (simp only [nf, nfS, Nat.beq] <;> rfl) | rfl) (by first | (simp only [nf, nfS, Nat.beq] <;> rfl) | rfl) (by decide) (by decide) rfl ?_
        exact AOps.nil ⟨rfl, rfl, rfl⟩⟩,
      trivial⟩) ?_
  refine Walk.cases [([false, false], Ob.box (wzz d (.sl f (L.map etz) .full) U T' ow ep jo nx) :: (S1 ++ [Ob.box (etz x), Ob.box [.sl none (T'.l.map spz) .ro, vi T'.n]]), Ob.box (wzz d (.sl f (L.map etz) .full) U T' ow ep jo nx) :: (S1 ++ [Ob.box (etz x), Ob.box [.sl none (T'.l.map spz) .ro, vi T'.n]]))] (by rfl) (by kernel_rfl) (rs := [55]) (by rfl) (by first | (simp only [nf, nfS, Nat.beq] <;> rfl) | rfl) (fun base => ⟨
      ⟨rfl, rfl, by
        refine n_load rfl ti214 (by first | (simp only [nf, nfS, Nat.beq] <;> rfl) | rfl) (by first | (simp only [nf, nfS, Nat.beq] <;> rfl) | rfl) rfl (by first | (simp only [nf, nfS, Nat.beq] <;> rfl) | rfl) ?_
        exact AOps.nil ⟨rfl, rfl, rfl⟩⟩,
      trivial⟩) ?_
  refine Walk.cases [([false, false], Ob.box (wzz d (.sl f (L.map etz) .full) U T' ow ep jo nx) :: (S1 ++ [Ob.box (etz x), Ob.box [.sl none (T'.l.map spz) .ro, vi T'.n]]), Ob.box (wzz d (.sl f (L.map etz) .full) U T' ow ep jo nx) :: (S1 ++ [Ob.box (etz x), Ob.box [.sl none (T'.l.map spz) .ro, vi T'.n]]))] (by rfl) (by kernel_rfl) (rs := [5]) (by rfl) (by first | (simp only [nf, nfS, Nat.beq] <;> rfl) | rfl) (fun base => ⟨
      ⟨rfl, rfl, by
        refine n_load rfl ti224 (by first | (simp only [nf, nfS, Nat.beq] <;> rfl) | rfl) (by first | (simp only [nf, nfS, Nat.beq] <;> rfl) | rfl) rfl (by first | (simp only [nf, nfS, Nat.beq] <;> rfl) | rfl) ?_
        exact AOps.nil ⟨rfl, rfl, rfl⟩⟩,
      trivial⟩) ?_
  refine Walk.cases [([false, false], Ob.box (wzz d (.sl f (L.map etz) .full) U T' ow ep jo nx) :: (S1 ++ [Ob.box (etz x), Ob.box [.sl none (T'.l.map spz) .ro, vi T'.n]]), Ob.box (wzz d (.sl f (L.map etz) .full) U T' ow ep jo nx) :: (S1 ++ [Ob.box (etz x), Ob.box [.sl none (T'.l.map spz) .ro, vi T'.n]]))] (by rfl) (by kernel_rfl) (rs := [57]) (by rfl) (by first | (simp only [nf, nfS, Nat.beq] <;> rfl) | rfl) (fun base => ⟨
      ⟨rfl, rfl, by
        refine n_lit rfl Try.underlying214 ti224 zi224 rfl rfl (Eq.trans (by simp only [nl] <;> rfl) (by first | (simp only [nf, nfS, Nat.beq] <;> rfl) | rfl)) rfl (by first | (simp only [nf, nfS, Nat.beq] <;> rfl) | rfl) ?_
        exact AOps.nil ⟨rfl, rfl, rfl⟩⟩,
      trivial⟩) ?_
  refine Walk.cases [([false, false], Ob.box (wzz d (.sl f (L.map etz) .full) U T' ow ep jo nx) :: (S1 ++ [Ob.box (etz x), Ob.box [.sl none (T'.l.map spz) .ro, vi T'.n]]), Ob.box (wzz d (.sl f (L.map etz) .full) U T' ow ep jo nx) :: (S1 ++ [Ob.box (etz x), Ob.box [.sl none (T'.l.map spz) .ro, vi T'.n], Ob.row (L.length + 1) 3]))] (by rfl) (by kernel_rfl) (rs := [56, 58]) (by rfl) (by first | (simp only [nf, nfS, Nat.beq] <;> rfl) | rfl) (fun base => ⟨
      ⟨rfl, rfl, by
        refine n_append_full (zs := (L ++ [x]).map etz) (m := L.length + 1) (S' := Ob.box (wzz d (.sl f (L.map etz) .full) U T' ow ep jo nx) :: (S1 ++ [Ob.box (etz x), Ob.box [.sl none (T'.l.map spz) .ro, vi T'.n], Ob.row (L.length + 1) 3])) rfl Try.underlying214 Try.underlying214 ei224 (by first | (simp only [nf, nfS, Nat.beq] <;> rfl) | rfl) (by first | (simp only [nf, nfS, Nat.beq] <;> rfl) | rfl) et4 (by intro y hy; simp at hy; subst hy; rfl) (by simp) (by simp) (by omega) (by first | (simp only [nf, nfS, Nat.beq] <;> rfl) | rfl) (by simp) ?_
        exact AOps.nil ⟨rfl, rfl, rfl⟩⟩,
      trivial⟩) ?_
  refine Walk.cases [([false, false], Ob.box (wzz d (.sl f (L.map etz) .full) U T' ow ep jo nx) :: (S1 ++ [Ob.box (etz x), Ob.box [.sl none (T'.l.map spz) .ro, vi T'.n]]), Ob.box (wzz d (.sl f (L.map etz) .full) U T' ow ep jo nx) :: (S1 ++ [Ob.box (etz x), Ob.box [.sl none (T'.l.map spz) .ro, vi T'.n]])), ([true, false], Ob.box (wzz d (.sl f (L.map etz) .full) U T' ow ep jo nx) :: (S1 ++ [Ob.box (etz x), Ob.box [.sl none (T'.l.map spz) .ro, vi T'.n], Ob.row (L.length + 1) 3]), Ob.box (wzz d (.sl f (L.map etz) .full) U T' ow ep jo nx) :: (S1 ++ [Ob.box (etz x), Ob.box [.sl none (T'.l.map spz) .ro, vi T'.n], Ob.row (L.length + 1) 3]))] (by rfl) (by kernel_rfl) (rs := [49]) (by rfl) (by first | (simp only [nf, nfS, Nat.beq] <;> rfl) | rfl) (fun base => ⟨
      ⟨rfl, rfl, by
        refine n_nilCheck rfl (by first | (simp only [nf, nfS, Nat.beq] <;> rfl) | rfl) rfl ?_
        exact AOps.nil ⟨rfl, rfl, rfl⟩⟩,
      ⟨rfl, rfl, by
        refine n_nilCheck rfl (by first | (simp only [nf, nfS, Nat.beq] <;> rfl) | rfl) rfl ?_
        exact AOps.nil ⟨rfl, rfl, rfl⟩⟩,
      trivial⟩) ?_
  refine Walk.cases [([false, false], Ob.box (wzz d (.sl f (L.map etz) .full) U T' ow ep jo nx) :: (S1 ++ [Ob.box (etz x), Ob.box [.sl none (T'.l.map spz) .ro, vi T'.n]]), Ob.box (wzz d (.sl f (L.map etz) .full) U T' ow ep jo nx) :: (S1 ++ [Ob.box (etz x), Ob.box [.sl none (T'.l.map spz) .ro, vi T'.n]])), ([true, false], Ob.box (wzz d (.sl f (L.map etz) .full) U T' ow ep jo nx) :: (S1 ++ [Ob.box (etz x), Ob.box [.sl none (T'.l.map spz) .ro, vi T'.n], Ob.row (L.length + 1) 3]), Ob.box (wzz d (.sl f (L.map etz) .full) U T' ow ep jo nx) :: (S1 ++ [Ob.box (etz x), Ob.box [.sl none (T'.l.map spz) .ro, vi T'.n], Ob.row (L.length + 1) 3]))] (by rfl) (by kernel_rfl) (rs := [60]) (by rfl) (by first | (simp only [nf, nfS, Nat.beq] <;> rfl) | rfl) (fun base => ⟨
      ⟨rfl, rfl, by
        refine n_fieldAddr rfl fd217_0 ti215 rfl (by first | (simp only [nf, nfS, Nat.beq] <;> rfl) | rfl) rfl (by first | (simp only [nf, nfS, Nat.beq] <;> rfl) | rfl) ?_
        exact AOps.nil ⟨rfl, rfl, rfl⟩⟩,
      ⟨rfl, rfl, by
        refine n_fieldAddr rfl fd217_0 ti215 rfl (by first | (simp only [nf, nfS, Nat.beq] <;> rfl) | rfl) rfl (by first | (simp only [nf, nfS, Nat.beq] <;> rfl) | rfl) ?_
        exact AOps.nil ⟨rfl, rfl, rfl⟩⟩,
      trivial⟩) ?_
  refine Walk.cases [([true, false], Ob.box (wzz d (.sl f (L.map etz) .full) U T' ow ep jo nx) :: (S1 ++ [Ob.box (etz x), Ob.box [.sl none (T'.l.map spz) .ro, vi T'.n], Ob.row (L.length + 1) 3]), Ob.box (wzz d (.sl f (L.map etz) .full) U T' ow ep jo nx) :: (S1 ++ [Ob.box (etz x), Ob.box [.sl none (T'.l.map spz) .ro, vi T'.n], Ob.row (L.length + 1) 3]))] (by rfl) (by kernel_rfl) (rs := [61, 50]) (by rfl) (by first | (simp only [nf, nfS, Nat.beq] <;> rfl) | rfl) (fun base => ⟨
      ⟨rfl, rfl, by
        refine n_arrAddr (q := 1) rfl Try.underlying215 ti214 (by first | (simp only [nf, nfS, Nat.beq] <;> rfl) | rfl) (by first | (simp only [nf, nfS, Nat.beq] <;> rfl) | rfl) (by decide) (by decide) rfl ?_
        exact AOps.nil ⟨rfl, rfl, rfl⟩⟩,
      trivial⟩) ?_
  refine Walk.cases (d := .any) [([true, false], Ob.box (wzz d (.sl f (L.map etz) .full) U T' ow ep jo nx) :: (S1 ++ [Ob.box (etz x), Ob.box [.sl none (T'.l.map spz) .ro, vi T'.n], Ob.row (L.length + 1) 3]), Ob.box (wzz d (.sl none ((L ++ [x]).map etz) (.own (S1.length + 2 + 1))) U T' ow ep jo nx) :: (S1 ++ [Ob.box (etz x), Ob.box [.sl none (T'.l.map spz) .ro, vi T'.n], Ob.row (L.length + 1) 3]))] (by rfl) (by kernel_rfl) (rs := [62, 59]) (by rfl) (by first | (simp only [nf, nfS, Nat.beq] <;> rfl) | rfl) (fun base => ⟨
      ⟨rfl, rfl, by
        refine n_store ti214 (by first | (simp only [nf, nfS, Nat.beq] <;> rfl) | rfl) (by first | (simp only [nf, nfS, Nat.beq] <;> rfl) | rfl) (by first | (simp only [nf, nfS, Nat.beq] <;> rfl) | rfl) rfl (by first | (simp only [nf, nfS, Nat.beq] <;> rfl) | rfl) rfl rfl rfl (by first | (simp only [nf, nfS, Nat.beq] <;> rfl) | rfl) ?_
        exact AOps.nil ⟨rfl, rfl, rfl⟩⟩,
      trivial⟩) ?_
  refine Walk.done ?_
  refine finK_normal .nil (by first | (simp only [nf, nfS, Nat.beq] <;> rfl) | rfl) ?_
  exact hK _ (S1.length + 2) (kept_full)

structure Mv where
  d : Int
  r : Int
  n : Int
abbrev mz (m : Mv) : List D := [vi m.d, vi m.r, .val (.int .u8 m.n)]
abbrev wb (w : Wd) (f : Bool → Option Bool) (C : Bool → Cap) : List D := wzz (.sl (f false) ((w.L false).map etz) (C false)) (.sl (f true) ((w.L true).map etz) (C true)) (w.T false) (w.T true) (reg w.b) w.ep w.jo w.nx
structure Stt (k : Nat) (w : Wd) (C : Bool → Cap) (S1 : List Ob) : Prop where
  inv : Inv k w
  nx : 0 ≤ w.nx ∧ w.nx ≤ k
  cap : ∀ c, CapS S1 (C c) (w.L c).length
  dis : ∀ c, Dis (C c) (C (!c))
theorem Stt.app {k : Nat} {w : Wd} {C : Bool → Cap} {S T : List Ob} (h : Stt k w C S) : Stt k w C (S ++ T) := ⟨h.inv, h.nx, fun c => (h.cap c).app, h.dis⟩
theorem Stt.more {k : Nat} {w : Wd} {C : Bool → Cap} {S : List Ob} (h : Stt k w C S) : Stt (k + 1) w C S := ⟨h.inv.more, ⟨h.nx.1, by have := h.nx.2; omega⟩, h.cap, h.dis⟩
theorem Stt.take {k : Nat} {w : Wd} {C : Bool → Cap} {S : List Ob} (h : Stt k w C S) (c : Bool) : Stt (k + 1) { w with b := c, ep := w.ep + 1, jo := false } C S := ⟨h.inv.take c, ⟨h.nx.1, by have := h.nx.2; dsimp only; omega⟩, h.cap, h.dis⟩
theorem Stt.put {k : Nat} {w : Wd} {C : Bool → Cap} {S1 S2 : List Ob} {n : Int} {x : Et} {j : Nat} (h : Stt k w C S1) (c : Bool) (hI : Inv (k + 1) { putW w c x with nx := n }) (hn : 0 ≤ n ∧ n ≤ (k : Int) + 1) (hk : Kept S1 S2 (C c) j ((w.L c).length + 1)) : Stt (k + 1) { putW w c x with nx := n } (at2 C c (.own (j + 1))) S2 := by
  have ho := hk.other (h.cap (!c)) (by have := h.dis (!c); rwa [Bool.not_not] at this)
  refine ⟨hI, ⟨hn.1, by dsimp only; omega⟩, fun e => ?_, fun e => ?_⟩
  · dsimp only [putW]
    by_cases q : e = c
    · subst q; rw [at2_same, at2_same, List.length_append]; exact hk.mine
    · rw [at2_other q, at2_other q]; have := bne_of q; subst this; exact ho.1
  · by_cases q : e = c
    · subst q; rw [at2_same, at2_other (bnot_ne _)]; exact ho.2.1
    · have := bne_of q; subst this; rw [at2_other q, Bool.not_not, at2_same]; exact ho.2.2
theorem Stt.join {k : Nat} {w : Wd} {C : Bool → Cap} {S1 : List Ob} (h : Stt k w C S1) {n : Nat} (hI : Inv (k + 1) (joinW w n)) : Stt (k + 1) (joinW w n) (at2 C (!w.b) .full) S1 := by
  refine ⟨hI, ⟨h.nx.1, by have := h.nx.2; dsimp only [joinW]; omega⟩, fun e => ?_, fun e => ?_⟩
  · dsimp only [joinW]
    by_cases q : e = !w.b
    · subst q; rw [at2_same]; exact .inl rfl
    · rw [at2_other q, at2_other q]; exact h.cap e
  · by_cases q : e = !w.b
    · subst q; rw [at2_same]; intro i hi; cases hi
    · have := bne_of q; subst this; rw [Bool.not_not, at2_same]; intro i hi hj; cases hj
theorem put0 {d : D} {U T : Tb} {ow ep : Int} {jo : Bool} {nx : Int} {f : Option Bool} {L : List Et} {x : Et} {S1 : List Ob} {K : D → List Ob → Prop} {C : Cap} (hC : CapS S1 C L.length) (hL : L.length ≤ 1000) (hg : T.good = true) (hl : T.l.length ≤ 1048576)
    (hE : T.addE x.e x.r (base false + (L.length : Int)) = 0) (hK : ∀ S2 j, Kept S1 S2 C j (L.length + 1) → K (.tup []) (.box (wzz (.sl none ((L ++ [x]).map etz) (.own (j + 1))) d (T.addT x.e x.r (base false + (L.length : Int))) U ow ep jo nx) :: S2)) : DoesK Try.prog 244 [.bp 0 0, vi 0, .agg (etz x)] (.box (wzz (.sl f (L.map etz) C) d T U ow ep jo nx) :: S1) K := by
  have ha := l_add T x.e x.r (base false + (L.length : Int)) hl (by have := base_rng false; omega)
  rw [may_same hg, hE] at ha
  rcases hC with rfl | ⟨i, rfl, hi⟩
  · exact put_0full d U T _ ow ep jo nx f L x S1 K hL ha hK
  · exact put_0own d U T _ ow ep jo nx f L x S1 i hi K hL ha hK
theorem put1 {d : D} {U T : Tb} {ow ep : Int} {jo : Bool} {nx : Int} {f : Option Bool} {L : List Et} {x : Et} {S1 : List Ob} {K : D → List Ob → Prop} {C : Cap} (hC : CapS S1 C L.length) (hL : L.length ≤ 1000) (hg : T.good = true) (hl : T.l.length ≤ 1048576)
    (hE : T.addE x.e x.r (base true + (L.length : Int)) = 0) (hK : ∀ S2 j, Kept S1 S2 C j (L.length + 1) → K (.tup []) (.box (wzz d (.sl none ((L ++ [x]).map etz) (.own (j + 1))) U (T.addT x.e x.r (base true + (L.length : Int))) ow ep jo nx) :: S2)) : DoesK Try.prog 244 [.bp 0 0, vi 1, .agg (etz x)] (.box (wzz d (.sl f (L.map etz) C) U T ow ep jo nx) :: S1) K := by
  have ha := l_add T x.e x.r (base true + (L.length : Int)) hl (by have := base_rng true; omega)
  rw [may_same hg, hE] at ha
  rcases hC with rfl | ⟨i, rfl, hi⟩
  · exact put_1full d U T _ ow ep jo nx f L x S1 K hL ha hK
  · exact put_1own d U T _ ow ep jo nx f L x S1 i hi K hL ha hK
set_option maxHeartbeats 4000000 in
theorem moves_0 (L : Bool → List Et) (T : Bool → Tb) (ep : Int) (jo : Bool) (nx : Int) (k : Nat) (hk : k < 300) (f : Bool → Option Bool) (C : Bool → Cap) (S1 : List Ob) (hs : Stt k ⟨L, T, false, ep, jo, nx⟩ C S1) (m : Mv) (K : D → List Ob → Prop) (hK : ∀ w f C S2, Stt (k + 1) w C S2 → K (.tup []) (.box (wb w f C) :: S2)) : DoesK Try.prog 159 [.bp 0 0, .agg (mz m)] (Ob.box (wzz (.sl (f false) ((L false).map etz) (C false)) (.sl (f true) ((L true).map etz) (C true)) (T false) (T true) 0 ep jo nx) :: S1) K := by
  refine DoesK.of_body (rvs := []) Try.func159 rfl rfl rfl rfl ?_
  have hI := hs.inv
  have hep : 0 ≤ ep ∧ ep ≤ k := hI.ep
  have hnx : 0 ≤ nx ∧ nx ≤ k := hs.nx
  have hg : ∀ c, (T c).good = true := fun c => (hI.desc c).good
  have hln : ∀ c, (L c).length ≤ k := hI.len
  have hlf := hln false
  have hlt := hln true
  have htl : ∀ c, (T c).l.length ≤ 1048576 := fun c => by { have h1 := Tb.desc_spans (hI.desc c); have h2 := (hI.desc c).len; have h3 := hln c; dsimp only at h1 h2; omega }
  obtain ⟨n, hcom, hn1, hn2, hn3, hn4⟩ := com_logs (hI.desc false) (hI.desc true) (hI.mt false)
  dsimp only at hcom hn1 hn2 hn3
  have hcm := l_com (T false) (T true) (htl false) (htl true)
  rw [may_same (hg false), may_same (hg true), hcom] at hcm
  obtain ⟨hcE, hcI⟩ := hI.join (n := n) hn2 (by dsimp only; exact hn3)
  dsimp only at hcE
  have hct := l_cut (T true) (n : Int) (htl true)
  rw [may_same (hg true), show (T true).cutE (n : Int) = 0 from hcE] at hct
  refine AWP.seq ?_
  refine AWP.region ?_
  refine n_box rfl (by first | (simp only [nf, nfS, Nat.beq] <;> rfl) | rfl) rfl rfl (by first | (simp only [nf, nfS, Nat.beq] <;> rfl) | rfl) (by first | (simp only [nf, nfS, Nat.beq] <;> rfl) | rfl) ?_
  refine AOps.nil ?_
  refine AWP.seq ?_
  refine AWP.region ?_
  refine n_move rfl (by first | (simp only [nf, nfS, Nat.beq] <;> rfl) | rfl) ?_
  refine n_nilCheck rfl (by first | (simp only [nf, nfS, Nat.beq] <;> rfl) | rfl) rfl ?_
  refine n_fieldAddr rfl fd217_2 ti3 rfl (by first | (simp only [nf, nfS, Nat.beq] <;> rfl) | rfl) rfl (by first | (simp only [nf, nfS, Nat.beq] <;> rfl) | rfl) ?_
  refine n_load rfl ti3 (by first | (simp only [nf, nfS, Nat.beq] <;> rfl) | rfl) (by first | (simp only [nf, nfS, Nat.beq] <;> rfl) | rfl) rfl (by first | (simp only [nf, nfS, Nat.beq] <;> rfl) | rfl) ?_
  refine n_isub (c := 1) rfl (by first | (simp only [nf, nfS, Nat.beq] <;> rfl) | rfl) (by first | (simp only [nf, nfS, Nat.beq] <;> rfl) | rfl) (by decide) (by decide) (by decide) ?_
  refine n_assign rfl (by first | (simp only [nf, nfS, Nat.beq] <;> rfl) | rfl) ?_
  refine AOps.nil ?_
  refine AWP.seq ?_
  refine AWP.region ?_
  refine n_fieldAddr rfl fd219_0 ti3 rfl (by first | (simp only [nf, nfS, Nat.beq] <;> rfl) | rfl) rfl (by first | (simp only [nf, nfS, Nat.beq] <;> rfl) | rfl) ?_
  refine n_load rfl ti3 (by first | (simp only [nf, nfS, Nat.beq] <;> rfl) | rfl) (by first | (simp only [nf, nfS, Nat.beq] <;> rfl) | rfl) rfl (by first | (simp only [nf, nfS, Nat.beq] <;> rfl) | rfl) ?_
  refine AOps.nil ?_
  refine AWP.block ?_
  refine AWP.seq ?_
  refine AWP.region ?_
  refine n_ibin rfl (by first | (simp only [nf, nfS, Nat.beq] <;> rfl) | rfl) (by first | (simp only [nf, nfS, Nat.beq] <;> rfl) | rfl) rfl ?_
  refine n_assign rfl (by first | (simp only [nf, nfS, Nat.beq] <;> rfl) | rfl) ?_
  refine AOps.nil ?_
  refine AWP.cond (by first | (simp only [nf, nfS, Nat.beq] <;> rfl) | rfl) (fun hc1 => ?_) (fun hc1 => ?_)
  · try simp only [nh] at hc1
    refine AWP.seq ?_
    refine AWP.region ?_
    refine n_move rfl (by first | (simp only [nf, nfS, Nat.beq] <;> rfl) | rfl) ?_
    refine n_move rfl (by first | (simp only [nf, nfS, Nat.beq] <;> rfl) | rfl) ?_
    refine n_fieldAddr rfl fd219_1 ti3 rfl (by first | (simp only [nf, nfS, Nat.beq] <;> rfl) | rfl) rfl (by first | (simp only [nf, nfS, Nat.beq] <;> rfl) | rfl) ?_
    refine n_load rfl ti3 (by first | (simp only [nf, nfS, Nat.beq] <;> rfl) | rfl) (by first | (simp only [nf, nfS, Nat.beq] <;> rfl) | rfl) rfl (by first | (simp only [nf, nfS, Nat.beq] <;> rfl) | rfl) ?_
    refine n_and1 rfl (by first | (simp only [nf, nfS, Nat.beq] <;> rfl) | rfl) (by first | (simp only [nf, nfS, Nat.beq] <;> rfl) | rfl) (fun c => ?_)
    refine n_nilCheck rfl (by first | (simp only [nf, nfS, Nat.beq] <;> rfl) | rfl) rfl ?_
    refine n_fieldAddr rfl fd217_2 ti3 rfl (by first | (simp only [nf, nfS, Nat.beq] <;> rfl) | rfl) rfl (by first | (simp only [nf, nfS, Nat.beq] <;> rfl) | rfl) ?_
    refine n_store ti3 (by first | (simp only [nf, nfS, Nat.beq] <;> rfl) | rfl) (by first | (simp only [nf, nfS, Nat.beq] <;> rfl) | rfl) (by first | (simp only [nf, nfS, Nat.beq] <;> rfl) | rfl) rfl (by first | (simp only [nf, nfS, Nat.beq] <;> rfl) | rfl) rfl rfl rfl (by first | (simp only [nf, nfS, Nat.beq] <;> rfl) | rfl) ?_
    refine n_nilCheck rfl (by first | (simp only [nf, nfS, Nat.beq] <;> rfl) | rfl) rfl ?_
    refine n_fieldAddr rfl fd217_4 ti4 rfl (by first | (simp only [nf, nfS, Nat.beq] <;> rfl) | rfl) rfl (by first | (simp only [nf, nfS, Nat.beq] <;> rfl) | rfl) ?_
    refine n_store ti4 (by first | (simp only [nf, nfS, Nat.beq] <;> rfl) | rfl) (by first | (simp only [nf, nfS, Nat.beq] <;> rfl) | rfl) (by first | (simp only [nf, nfS, Nat.beq] <;> rfl) | rfl) rfl (by first | (simp only [nf, nfS, Nat.beq] <;> rfl) | rfl) rfl rfl rfl (by first | (simp only [nf, nfS, Nat.beq] <;> rfl) | rfl) ?_
    refine AOps.nil ?_
    refine AWP.region ?_
    refine n_move rfl (by first | (simp only [nf, nfS, Nat.beq] <;> rfl) | rfl) ?_
    refine n_nilCheck rfl (by first | (simp only [nf, nfS, Nat.beq] <;> rfl) | rfl) rfl ?_
    refine n_fieldAddr rfl fd217_3 ti2 rfl (by first | (simp only [nf, nfS, Nat.beq] <;> rfl) | rfl) rfl (by first | (simp only [nf, nfS, Nat.beq] <;> rfl) | rfl) ?_
    refine n_load rfl ti2 (by first | (simp only [nf, nfS, Nat.beq] <;> rfl) | rfl) (by first | (simp only [nf, nfS, Nat.beq] <;> rfl) | rfl) rfl (by first | (simp only [nf, nfS, Nat.beq] <;> rfl) | rfl) ?_
    first | refine n_iadd rfl (by first | (simp only [nf, nfS, Nat.beq] <;> rfl) | rfl) (by first | (simp only [nf, nfS, Nat.beq] <;> rfl) | rfl) rfl (by omega) (by omega) ?_ | refine n_ibin rfl (by first | (simp only [nf, nfS, Nat.beq] <;> rfl) | rfl) (by first | (simp only [nf, nfS, Nat.beq] <;> rfl) | rfl) rfl ?_
    refine n_nilCheck rfl (by first | (simp only [nf, nfS, Nat.beq] <;> rfl) | rfl) rfl ?_
    refine n_fieldAddr rfl fd217_3 ti2 rfl (by first | (simp only [nf, nfS, Nat.beq] <;> rfl) | rfl) rfl (by first | (simp only [nf, nfS, Nat.beq] <;> rfl) | rfl) ?_
    refine n_store ti2 (by first | (simp only [nf, nfS, Nat.beq] <;> rfl) | rfl) (by first | (simp only [nf, nfS, Nat.beq] <;> rfl) | rfl) (by first | (simp only [nf, nfS, Nat.beq] <;> rfl) | rfl) rfl (by first | (simp only [nf, nfS, Nat.beq] <;> rfl) | rfl) rfl rfl rfl (by first | (simp only [nf, nfS, Nat.beq] <;> rfl) | rfl) ?_
    refine AOps.nil ?_
    refine finK_normal .nil (by first | (simp only [nf, nfS, Nat.beq] <;> rfl) | rfl) ?_
    first
    | exact hK { putW ⟨L, T, false, ep, jo, nx⟩ false ⟨nx + 1, ep, reg false⟩ with nx := nx + 1 } (at2 f false none) (at2 C false (.own (j + 1))) _ (hs.app.put false hA2 (by omega) hk2)
    | exact hK { putW ⟨L, T, false, ep, b157, nx⟩ true x with nx := nx } (at2 f true none) (at2 C true (.own (j + 1))) _ (hs.app.put (n := nx) true hM2 (by omega) hk2)
    | exact hK (joinW ⟨L, T, false, ep, jo, nx⟩ n) f (at2 C true .full) _ (hs.app.join hcI)
    | exact hK _ f C _ (hs.app.take c)
    | exact hK ⟨L, T, false, ep, jo, nx⟩ f C _ hs.app.more
    | exact hK ⟨L, T, false, ep, b157, nx⟩ f C _ hs.app.more
  · try simp only [nh] at hc1
    refine AWP.seq ?_
    refine AWP.region ?_
    refine n_ibin rfl (by first | (simp only [nf, nfS, Nat.beq] <;> rfl) | rfl) (by first | (simp only [nf, nfS, Nat.beq] <;> rfl) | rfl) rfl ?_
    refine n_assign rfl (by first | (simp only [nf, nfS, Nat.beq] <;> rfl) | rfl) ?_
    refine AOps.nil ?_
    refine AWP.cond (by first | (simp only [nf, nfS, Nat.beq] <;> rfl) | rfl) (fun hc2 => ?_) (fun hc2 => ?_)
    · try simp only [nh] at hc2
      refine AWP.seq ?_
      refine AWP.region ?_
      refine n_move rfl (by first | (simp only [nf, nfS, Nat.beq] <;> rfl) | rfl) ?_
      refine n_nilCheck rfl (by first | (simp only [nf, nfS, Nat.beq] <;> rfl) | rfl) rfl ?_
      refine n_fieldAddr rfl fd217_3 ti2 rfl (by first | (simp only [nf, nfS, Nat.beq] <;> rfl) | rfl) rfl (by first | (simp only [nf, nfS, Nat.beq] <;> rfl) | rfl) ?_
      refine n_load rfl ti2 (by first | (simp only [nf, nfS, Nat.beq] <;> rfl) | rfl) (by first | (simp only [nf, nfS, Nat.beq] <;> rfl) | rfl) rfl (by first | (simp only [nf, nfS, Nat.beq] <;> rfl) | rfl) ?_
      refine n_ibin rfl (by first | (simp only [nf, nfS, Nat.beq] <;> rfl) | rfl) (by first | (simp only [nf, nfS, Nat.beq] <;> rfl) | rfl) rfl ?_
      refine AOps.nil ?_
      refine AWP.cond (by first | (simp only [nf, nfS, Nat.beq] <;> rfl) | rfl) (fun hc3 => ?_) (fun hc3 => ?_)
      · try simp only [nh] at hc3
        have hA := hI.append (by omega) hc3 (nx + 1)
        obtain ⟨hA1, hA2⟩ := hA
        dsimp only at hA1 hA2
        refine AWP.seq ?_
        refine AWP.region ?_
        refine n_move rfl (by first | (simp only [nf, nfS, Nat.beq] <;> rfl) | rfl) ?_
        refine n_nilCheck rfl (by first | (simp only [nf, nfS, Nat.beq] <;> rfl) | rfl) rfl ?_
        refine n_fieldAddr rfl fd217_5 ti3 rfl (by first | (simp only [nf, nfS, Nat.beq] <;> rfl) | rfl) rfl (by first | (simp only [nf, nfS, Nat.beq] <;> rfl) | rfl) ?_
        refine n_load rfl ti3 (by first | (simp only [nf, nfS, Nat.beq] <;> rfl) | rfl) (by first | (simp only [nf, nfS, Nat.beq] <;> rfl) | rfl) rfl (by first | (simp only [nf, nfS, Nat.beq] <;> rfl) | rfl) ?_
        first | refine n_iadd rfl (by first | (simp only [nf, nfS, Nat.beq] <;> rfl) | rfl) (by first | (simp only [nf, nfS, Nat.beq] <;> rfl) | rfl) rfl (by omega) (by omega) ?_ | refine n_ibin rfl (by first | (simp only [nf, nfS, Nat.beq] <;> rfl) | rfl) (by first | (simp only [nf, nfS, Nat.beq] <;> rfl) | rfl) rfl ?_
        refine n_nilCheck rfl (by first | (simp only [nf, nfS, Nat.beq] <;> rfl) | rfl) rfl ?_
        refine n_fieldAddr rfl fd217_5 ti3 rfl (by first | (simp only [nf, nfS, Nat.beq] <;> rfl) | rfl) rfl (by first | (simp only [nf, nfS, Nat.beq] <;> rfl) | rfl) ?_
        refine n_store ti3 (by first | (simp only [nf, nfS, Nat.beq] <;> rfl) | rfl) (by first | (simp only [nf, nfS, Nat.beq] <;> rfl) | rfl) (by first | (simp only [nf, nfS, Nat.beq] <;> rfl) | rfl) rfl (by first | (simp only [nf, nfS, Nat.beq] <;> rfl) | rfl) rfl rfl rfl (by first | (simp only [nf, nfS, Nat.beq] <;> rfl) | rfl) ?_
        refine AOps.nil ?_
        refine AWP.anyThen 18 (by kernel_rfl) (by kernel_rfl) rfl (by kernel_rfl) (by kernel_rfl) ?_
        refine Walk.still (rs := [0]) (by rfl) (by first | (simp only [nf, nfS, Nat.beq] <;> rfl) | rfl) (fun base => by
            refine n_move rfl (by first | (simp only [nf, nfS, Nat.beq] <;> rfl) | rfl) ?_
            exact AOps.nil ⟨rfl, rfl, rfl⟩) ?_
        refine Walk.still (rs := [0]) (by rfl) (by first | (simp only [nf, nfS, Nat.beq] <;> rfl) | rfl) (fun base => by
            refine n_move rfl (by first | (simp only [nf, nfS, Nat.beq] <;> rfl) | rfl) ?_
            exact AOps.nil ⟨rfl, rfl, rfl⟩) ?_
        refine Walk.still (rs := [49]) (by rfl) (by first | (simp only [nf, nfS, Nat.beq] <;> rfl) | rfl) (fun base => by
            refine n_nilCheck rfl (by first | (simp only [nf, nfS, Nat.beq] <;> rfl) | rfl) rfl ?_
            exact AOps.nil ⟨rfl, rfl, rfl⟩) ?_
        refine Walk.still (rs := [50]) (by rfl) (by first | (simp only [nf, nfS, Nat.beq] <;> rfl) | rfl) (fun base => by
            refine n_fieldAddr rfl fd217_2 ti3 rfl (by first | (simp only [nf, nfS, Nat.beq] <;> rfl) | rfl) rfl (by first | (simp only [nf, nfS, Nat.beq] <;> rfl) | rfl) ?_
            exact AOps.nil ⟨rfl, rfl, rfl⟩) ?_
        refine Walk.still (rs := [51]) (by rfl) (by first | (simp only [nf, nfS, Nat.beq] <;> rfl) | rfl) (fun base => by
            refine n_load rfl ti3 (by first | (simp only [nf, nfS, Nat.beq] <;> rfl) | rfl) (by first | (simp only [nf, nfS, Nat.beq] <;> rfl) | rfl) rfl (by first | (simp only [nf, nfS, Nat.beq] <;> rfl) | rfl) ?_
            exact AOps.nil ⟨rfl, rfl, rfl⟩) ?_
        refine Walk.still (rs := [0]) (by rfl) (by first | (simp only [nf, nfS, Nat.beq] <;> rfl) | rfl) (fun base => by
            refine n_move rfl (by first | (simp only [nf, nfS, Nat.beq] <;> rfl) | rfl) ?_
            exact AOps.nil ⟨rfl, rfl, rfl⟩) ?_
        refine Walk.still (rs := [53]) (by rfl) (by first | (simp only [nf, nfS, Nat.beq] <;> rfl) | rfl) (fun base => by
            refine n_nilCheck rfl (by first | (simp only [nf, nfS, Nat.beq] <;> rfl) | rfl) rfl ?_
            exact AOps.nil ⟨rfl, rfl, rfl⟩) ?_
        refine Walk.still (rs := [54]) (by rfl) (by first | (simp only [nf, nfS, Nat.beq] <;> rfl) | rfl) (fun base => by
            refine n_fieldAddr rfl fd217_5 ti3 rfl (by first | (simp only [nf, nfS, Nat.beq] <;> rfl) | rfl) rfl (by first | (simp only [nf, nfS, Nat.beq] <;> rfl) | rfl) ?_
            exact AOps.nil ⟨rfl, rfl, rfl⟩) ?_
        refine Walk.still (rs := [55]) (by rfl) (by first | (simp only [nf, nfS, Nat.beq] <;> rfl) | rfl) (fun base => by
            refine n_load rfl ti3 (by first | (simp only [nf, nfS, Nat.beq] <;> rfl) | rfl) (by first | (simp only [nf, nfS, Nat.beq] <;> rfl) | rfl) rfl (by first | (simp only [nf, nfS, Nat.beq] <;> rfl) | rfl) ?_
            exact AOps.nil ⟨rfl, rfl, rfl⟩) ?_
        refine Walk.still (rs := [0]) (by rfl) (by first | (simp only [nf, nfS, Nat.beq] <;> rfl) | rfl) (fun base => by
            refine n_move rfl (by first | (simp only [nf, nfS, Nat.beq] <;> rfl) | rfl) ?_
            exact AOps.nil ⟨rfl, rfl, rfl⟩) ?_
        refine Walk.still (rs := [57]) (by rfl) (by first | (simp only [nf, nfS, Nat.beq] <;> rfl) | rfl) (fun base => by
            refine n_nilCheck rfl (by first | (simp only [nf, nfS, Nat.beq] <;> rfl) | rfl) rfl ?_
            exact AOps.nil ⟨rfl, rfl, rfl⟩) ?_
        refine Walk.still (rs := [58]) (by rfl) (by first | (simp only [nf, nfS, Nat.beq] <;> rfl) | rfl) (fun base => by
            refine n_fieldAddr rfl fd217_3 ti2 rfl (by first | (simp only [nf, nfS, Nat.beq] <;> rfl) | rfl) rfl (by first | (simp only [nf, nfS, Nat.beq] <;> rfl) | rfl) ?_
            exact AOps.nil ⟨rfl, rfl, rfl⟩) ?_
        refine Walk.still (rs := [59]) (by rfl) (by first | (simp only [nf, nfS, Nat.beq] <;> rfl) | rfl) (fun base => by
            refine n_load rfl ti2 (by first | (simp only [nf, nfS, Nat.beq] <;> rfl) | rfl) (by first | (simp only [nf, nfS, Nat.beq] <;> rfl) | rfl) rfl (by first | (simp only [nf, nfS, Nat.beq] <;> rfl) | rfl) ?_
            exact AOps.nil ⟨rfl, rfl, rfl⟩) ?_
        refine Walk.still (rs := [0]) (by rfl) (by first | (simp only [nf, nfS, Nat.beq] <;> rfl) | rfl) (fun base => by
            refine n_move rfl (by first | (simp only [nf, nfS, Nat.beq] <;> rfl) | rfl) ?_
            exact AOps.nil ⟨rfl, rfl, rfl⟩) ?_
        refine Walk.still (rs := [61]) (by rfl) (by first | (simp only [nf, nfS, Nat.beq] <;> rfl) | rfl) (fun base => by
            refine n_nilCheck rfl (by first | (simp only [nf, nfS, Nat.beq] <;> rfl) | rfl) rfl ?_
            exact AOps.nil ⟨rfl, rfl, rfl⟩) ?_
        refine Walk.still (rs := [62]) (by rfl) (by first | (simp only [nf, nfS, Nat.beq] <;> rfl) | rfl) (fun base => by
            refine n_fieldAddr rfl fd217_2 ti3 rfl (by first | (simp only [nf, nfS, Nat.beq] <;> rfl) | rfl) rfl (by first | (simp only [nf, nfS, Nat.beq] <;> rfl) | rfl) ?_
            exact AOps.nil ⟨rfl, rfl, rfl⟩) ?_
        refine Walk.still (rs := [63]) (by rfl) (by first | (simp only [nf, nfS, Nat.beq] <;> rfl) | rfl) (fun base => by
            refine n_load rfl ti3 (by first | (simp only [nf, nfS, Nat.beq] <;> rfl) | rfl) (by first | (simp only [nf, nfS, Nat.beq] <;> rfl) | rfl) rfl (by first | (simp only [nf, nfS, Nat.beq] <;> rfl) | rfl) ?_
            exact AOps.nil ⟨rfl, rfl, rfl⟩) ?_
        refine Walk.still (rs := [56, 60, 64]) (by rfl) (by first | (simp only [nf, nfS, Nat.beq] <;> rfl) | rfl) (fun base => by
            refine n_build rfl si224 (Eq.trans (by simp only [nl] <;> rfl) (by first | (simp only [nf, nfS, Nat.beq] <;> rfl) | rfl)) (Eq.trans (by simp only [nl] <;> rfl) (by first | (simp only [nf, nfS, Nat.beq] <;> rfl) | rfl)) rfl ?_
            exact AOps.nil ⟨rfl, rfl, rfl⟩) ?_
        refine Walk.done ?_
        refine op_callK (dst := some 66) rfl cf244 rfl (Eq.trans (by simp only [nl] <;> rfl) (by first | (simp only [nf, nfS, Nat.beq] <;> rfl) | rfl)) (put0 (x := ⟨nx + 1, ep, reg false⟩) (hs.app.cap false) (by have := hln false; omega) (hg false) (htl false) hA1 (fun S2 j hk2 => ?_))
        refine AOps.nil ?_
        refine finK_normal .nil (by first | (simp only [nf, nfS, Nat.beq] <;> rfl) | rfl) ?_
        first
        | exact hK { putW ⟨L, T, false, ep, jo, nx⟩ false ⟨nx + 1, ep, reg false⟩ with nx := nx + 1 } (at2 f false none) (at2 C false (.own (j + 1))) _ (hs.app.put false hA2 (by omega) hk2)
        | exact hK { putW ⟨L, T, false, ep, b157, nx⟩ true x with nx := nx } (at2 f true none) (at2 C true (.own (j + 1))) _ (hs.app.put (n := nx) true hM2 (by omega) hk2)
        | exact hK (joinW ⟨L, T, false, ep, jo, nx⟩ n) f (at2 C true .full) _ (hs.app.join hcI)
        | exact hK _ f C _ (hs.app.take c)
        | exact hK ⟨L, T, false, ep, jo, nx⟩ f C _ hs.app.more
        | exact hK ⟨L, T, false, ep, b157, nx⟩ f C _ hs.app.more
      · try simp only [nh] at hc3
        refine AWP.skip ?_
        refine finK_normal .nil (by first | (simp only [nf, nfS, Nat.beq] <;> rfl) | rfl) ?_
        first
        | exact hK { putW ⟨L, T, false, ep, jo, nx⟩ false ⟨nx + 1, ep, reg false⟩ with nx := nx + 1 } (at2 f false none) (at2 C false (.own (j + 1))) _ (hs.app.put false hA2 (by omega) hk2)
        | exact hK { putW ⟨L, T, false, ep, b157, nx⟩ true x with nx := nx } (at2 f true none) (at2 C true (.own (j + 1))) _ (hs.app.put (n := nx) true hM2 (by omega) hk2)
        | exact hK (joinW ⟨L, T, false, ep, jo, nx⟩ n) f (at2 C true .full) _ (hs.app.join hcI)
        | exact hK _ f C _ (hs.app.take c)
        | exact hK ⟨L, T, false, ep, jo, nx⟩ f C _ hs.app.more
        | exact hK ⟨L, T, false, ep, b157, nx⟩ f C _ hs.app.more
    · try simp only [nh] at hc2
      refine AWP.seq ?_
      refine AWP.region ?_
      refine n_ibin rfl (by first | (simp only [nf, nfS, Nat.beq] <;> rfl) | rfl) (by first | (simp only [nf, nfS, Nat.beq] <;> rfl) | rfl) rfl ?_
      refine n_assign rfl (by first | (simp only [nf, nfS, Nat.beq] <;> rfl) | rfl) ?_
      refine AOps.nil ?_
      refine AWP.cond (by first | (simp only [nf, nfS, Nat.beq] <;> rfl) | rfl) (fun hc4 => ?_) (fun hc4 => ?_)
      · try simp only [nh] at hc4
        refine AWP.seq ?_
        refine AWP.anyStill (by kernel_rfl) (by kernel_rfl) ?_
        refine Walk.still (rs := [0]) (by rfl) (by first | (simp only [nf, nfS, Nat.beq] <;> rfl) | rfl) (fun base => by
            refine n_move rfl (by first | (simp only [nf, nfS, Nat.beq] <;> rfl) | rfl) ?_
            exact AOps.nil ⟨rfl, rfl, rfl⟩) ?_
        refine Walk.still (rs := [69]) (by rfl) (by first | (simp only [nf, nfS, Nat.beq] <;> rfl) | rfl) (fun base => by
            refine n_nilCheck rfl (by first | (simp only [nf, nfS, Nat.beq] <;> rfl) | rfl) rfl ?_
            exact AOps.nil ⟨rfl, rfl, rfl⟩) ?_
        refine Walk.still (rs := [70]) (by rfl) (by first | (simp only [nf, nfS, Nat.beq] <;> rfl) | rfl) (fun base => by
            refine n_fieldAddr rfl fd217_1 ti213 rfl (by first | (simp only [nf, nfS, Nat.beq] <;> rfl) | rfl) rfl (by first | (simp only [nf, nfS, Nat.beq] <;> rfl) | rfl) ?_
            exact AOps.nil ⟨rfl, rfl, rfl⟩) ?_
        refine Walk.still (rs := [71]) (by rfl) (by first | (simp only [nf, nfS, Nat.beq] <;> rfl) | rfl) (fun base => by
            refine n_arrAddr (q := 2) rfl Try.underlying213 ti188 (by first | (simp only [nf, nfS, Nat.beq] <;> rfl) | rfl) (by first | (simp only [nf, nfS, Nat.beq] <;> rfl) | rfl) (by decide) (by decide) rfl ?_
            exact AOps.nil ⟨rfl, rfl, rfl⟩) ?_
        refine Walk.still (rs := [72]) (by rfl) (by first | (simp only [nf, nfS, Nat.beq] <;> rfl) | rfl) (fun base => by
            refine n_load rfl ti188 (by first | (simp only [nf, nfS, Nat.beq] <;> rfl) | rfl) (by first | (simp only [nf, nfS, Nat.beq] <;> rfl) | rfl) rfl (by first | (simp only [nf, nfS, Nat.beq] <;> rfl) | rfl) ?_
            exact AOps.nil ⟨rfl, rfl, rfl⟩) ?_
        refine Walk.still (rs := [0]) (by rfl) (by first | (simp only [nf, nfS, Nat.beq] <;> rfl) | rfl) (fun base => by
            refine n_move rfl (by first | (simp only [nf, nfS, Nat.beq] <;> rfl) | rfl) ?_
            exact AOps.nil ⟨rfl, rfl, rfl⟩) ?_
        refine Walk.still (rs := [74]) (by rfl) (by first | (simp only [nf, nfS, Nat.beq] <;> rfl) | rfl) (fun base => by
            refine n_nilCheck rfl (by first | (simp only [nf, nfS, Nat.beq] <;> rfl) | rfl) rfl ?_
            exact AOps.nil ⟨rfl, rfl, rfl⟩) ?_
        refine Walk.still (rs := [75]) (by rfl) (by first | (simp only [nf, nfS, Nat.beq] <;> rfl) | rfl) (fun base => by
            refine n_fieldAddr rfl fd217_1 ti213 rfl (by first | (simp only [nf, nfS, Nat.beq] <;> rfl) | rfl) rfl (by first | (simp only [nf, nfS, Nat.beq] <;> rfl) | rfl) ?_
            exact AOps.nil ⟨rfl, rfl, rfl⟩) ?_
        refine Walk.still (rs := [76]) (by rfl) (by first | (simp only [nf, nfS, Nat.beq] <;> rfl) | rfl) (fun base => by
            refine n_arrAddr (q := 4) rfl Try.underlying213 ti188 (by first | (simp only [nf, nfS, Nat.beq] <;> rfl) | rfl) (by first | (simp only [nf, nfS, Nat.beq] <;> rfl) | rfl) (by decide) (by decide) rfl ?_
            exact AOps.nil ⟨rfl, rfl, rfl⟩) ?_
        refine Walk.still (rs := [77]) (by rfl) (by first | (simp only [nf, nfS, Nat.beq] <;> rfl) | rfl) (fun base => by
            refine n_load rfl ti188 (by first | (simp only [nf, nfS, Nat.beq] <;> rfl) | rfl) (by first | (simp only [nf, nfS, Nat.beq] <;> rfl) | rfl) rfl (by first | (simp only [nf, nfS, Nat.beq] <;> rfl) | rfl) ?_
            exact AOps.nil ⟨rfl, rfl, rfl⟩) ?_
        refine Walk.still (rs := [73, 78]) (by rfl) (by first | (simp only [nf, nfS, Nat.beq] <;> rfl) | rfl) (fun base => by
            refine n_call0B rfl cf160 rfl (Eq.trans (by simp only [nl] <;> rfl) (by first | (simp only [nf, nfS, Nat.beq] <;> rfl) | rfl)) (by repeat (first | exact .nil | refine .cons ?_ ?_ | exact ren_ints | exact .lf (.val _) | exact .lf (lf_ints (.inl rfl)) | exact .bp ⟨rfl, rfl⟩ | exact .bp (.inl ⟨rfl, rfl⟩) | exact .bp (.inr ⟨rfl, rfl⟩) | exact ren_nil0 | exact .lf (lf_fnrp (lf_cons (.val _) lf_nil)) | exact .lf (.rp (lf_cons (.val _) lf_nil)) | exact .bs ⟨rfl, rfl⟩ | exact .lf (D.flat_lf rfl) | exact ren_map (f := spz) (fun _ => rfl) | exact .lf (lf_tz _) | exact ren_tz | exact .lf (.fn (fun d h => by cases h) (fun d h => by cases h)) | exact .lf (lf_fnrp (lf_rp1 (f := spz) (fun _ => rfl))) | exact .ro (by intro x hx; simp only [List.mem_cons, List.not_mem_nil, or_false] at hx; rcases hx with rfl | rfl <;> exact flats_lf rfl))) (hcm) (by first | exact .val _ | exact lf_ints (.inl rfl) | exact lf_ints (.inr rfl) | exact .any | exact lf_nil0 | exact lf_fnrp (lf_cons (.val _) lf_nil) | exact D.flat_lf rfl | exact lf_map (f := spz) (fun _ => rfl) (.inl rfl) | exact lf_tz _ | exact .tup (lf_cons (lf_tz _) (lf_cons (.val _) lf_nil)) | exact lf_fnrp (lf_rp1 (f := spz) (fun _ => rfl))) ?_
            exact AOps.nil ⟨rfl, rfl, rfl⟩) ?_
        refine Walk.still (rs := [79]) (by rfl) (by first | (simp only [nf, nfS, Nat.beq] <;> rfl) | rfl) (fun base => by
            refine n_assign rfl (by first | (simp only [nf, nfS, Nat.beq] <;> rfl) | rfl) ?_
            exact AOps.nil ⟨rfl, rfl, rfl⟩) ?_
        refine Walk.done ?_
        refine AWP.seq ?_
        refine AWP.region ?_
        refine n_move rfl (by first | (simp only [nf, nfS, Nat.beq] <;> rfl) | rfl) ?_
        refine n_move rfl (by first | (simp only [nf, nfS, Nat.beq] <;> rfl) | rfl) ?_
        refine n_nilCheck rfl (by first | (simp only [nf, nfS, Nat.beq] <;> rfl) | rfl) rfl ?_
        refine n_fieldAddr rfl fd217_1 ti213 rfl (by first | (simp only [nf, nfS, Nat.beq] <;> rfl) | rfl) rfl (by first | (simp only [nf, nfS, Nat.beq] <;> rfl) | rfl) ?_
        refine n_arrAddr (q := 4) rfl Try.underlying213 ti188 (by first | (simp only [nf, nfS, Nat.beq] <;> rfl) | rfl) (by first | (simp only [nf, nfS, Nat.beq] <;> rfl) | rfl) (by decide) (by decide) rfl ?_
        refine n_load rfl ti188 (by first | (simp only [nf, nfS, Nat.beq] <;> rfl) | rfl) (by first | (simp only [nf, nfS, Nat.beq] <;> rfl) | rfl) rfl (by first | (simp only [nf, nfS, Nat.beq] <;> rfl) | rfl) ?_
        refine n_move rfl (by first | (simp only [nf, nfS, Nat.beq] <;> rfl) | rfl) ?_
        refine n_call0B rfl cf245 rfl (Eq.trans (by simp only [nl] <;> rfl) (by first | (simp only [nf, nfS, Nat.beq] <;> rfl) | rfl)) (by repeat (first | exact .nil | refine .cons ?_ ?_ | exact ren_ints | exact .lf (.val _) | exact .lf (lf_ints (.inl rfl)) | exact .bp ⟨rfl, rfl⟩ | exact .bp (.inl ⟨rfl, rfl⟩) | exact .bp (.inr ⟨rfl, rfl⟩) | exact ren_nil0 | exact .lf (lf_fnrp (lf_cons (.val _) lf_nil)) | exact .lf (.rp (lf_cons (.val _) lf_nil)) | exact .bs ⟨rfl, rfl⟩ | exact .lf (D.flat_lf rfl) | exact ren_map (f := spz) (fun _ => rfl) | exact .lf (lf_tz _) | exact ren_tz | exact .lf (.fn (fun d h => by cases h) (fun d h => by cases h)) | exact .lf (lf_fnrp (lf_rp1 (f := spz) (fun _ => rfl))) | exact .ro (by intro x hx; simp only [List.mem_cons, List.not_mem_nil, or_false] at hx; rcases hx with rfl | rfl <;> exact flats_lf rfl))) (hct) (by first | exact .val _ | exact lf_ints (.inl rfl) | exact lf_ints (.inr rfl) | exact .any | exact lf_nil0 | exact lf_fnrp (lf_cons (.val _) lf_nil) | exact D.flat_lf rfl | exact lf_map (f := spz) (fun _ => rfl) (.inl rfl) | exact lf_tz _ | exact .tup (lf_cons (lf_tz _) (lf_cons (.val _) lf_nil)) | exact lf_fnrp (lf_rp1 (f := spz) (fun _ => rfl))) ?_
        refine n_move rfl (by first | (simp only [nf, nfS, Nat.beq] <;> rfl) | rfl) ?_
        refine n_extract rfl (by first | (simp only [nf, nfS, Nat.beq] <;> rfl) | rfl) rfl ?_
        refine n_extract rfl (by first | (simp only [nf, nfS, Nat.beq] <;> rfl) | rfl) rfl ?_
        refine n_alloc rfl zi188 rfl (by first | (simp only [nf, nfS, Nat.beq] <;> rfl) | rfl) (by first | (simp only [nf, nfS, Nat.beq] <;> rfl) | rfl) ?_
        refine n_store ti188 (by first | (simp only [nf, nfS, Nat.beq] <;> rfl) | rfl) (by first | (simp only [nf, nfS, Nat.beq] <;> rfl) | rfl) (by first | (simp only [nf, nfS, Nat.beq] <;> rfl) | rfl) rfl (by first | (simp only [nf, nfS, Nat.beq] <;> rfl) | rfl) rfl rfl rfl (by first | (simp only [nf, nfS, Nat.beq] <;> rfl) | rfl) ?_
        refine n_assign rfl (by first | (simp only [nf, nfS, Nat.beq] <;> rfl) | rfl) ?_
        refine AOps.nil ?_
        refine AWP.seq ?_
        refine AWP.region ?_
        refine n_move rfl (by first | (simp only [nf, nfS, Nat.beq] <;> rfl) | rfl) ?_
        refine n_move rfl (by first | (simp only [nf, nfS, Nat.beq] <;> rfl) | rfl) ?_
        refine n_nilCheck rfl (by first | (simp only [nf, nfS, Nat.beq] <;> rfl) | rfl) rfl ?_
        refine n_fieldAddr rfl fd217_6 ti4 rfl (by first | (simp only [nf, nfS, Nat.beq] <;> rfl) | rfl) rfl (by first | (simp only [nf, nfS, Nat.beq] <;> rfl) | rfl) ?_
        refine n_load rfl ti4 (by first | (simp only [nf, nfS, Nat.beq] <;> rfl) | rfl) (by first | (simp only [nf, nfS, Nat.beq] <;> rfl) | rfl) rfl (by first | (simp only [nf, nfS, Nat.beq] <;> rfl) | rfl) ?_
        refine n_move rfl (by first | (simp only [nf, nfS, Nat.beq] <;> rfl) | rfl) ?_
        refine n_guard_yes rfl rfl rfl (by first | (simp only [nf, nfS, Nat.beq] <;> rfl) | rfl) rfl ?_
        refine n_move rfl (by first | (simp only [nf, nfS, Nat.beq] <;> rfl) | rfl) ?_
        refine n_guard_yes rfl rfl rfl (by first | (simp only [nf, nfS, Nat.beq] <;> rfl) | rfl) rfl ?_
        refine n_ibin rfl (by first | (simp only [nf, nfS, Nat.beq] <;> rfl) | rfl) (by first | (simp only [nf, nfS, Nat.beq] <;> rfl) | rfl) rfl ?_
        refine n_pick rfl (by first | (simp only [nf, nfS, Nat.beq] <;> rfl) | rfl) (by first | (simp only [nf, nfS, Nat.beq] <;> rfl) | rfl) ?_
        refine n_move rfl (by first | (simp only [nf, nfS, Nat.beq] <;> rfl) | rfl) ?_
        refine n_guard_yes rfl rfl rfl (by first | (simp only [nf, nfS, Nat.beq] <;> rfl) | rfl) rfl ?_
        refine n_move rfl (by first | (simp only [nf, nfS, Nat.beq] <;> rfl) | rfl) ?_
        refine n_guard_yes rfl rfl rfl (by first | (simp only [nf, nfS, Nat.beq] <;> rfl) | rfl) rfl ?_
        refine n_ibin (v := .bool true) rfl (by first | (simp only [nf, nfS, Nat.beq] <;> rfl) | rfl) (by first | (simp only [nf, nfS, Nat.beq] <;> rfl) | rfl) (by show some (Value.bool (decide _)) = _; rw [decide_eq_true (by omega)]) ?_
        refine n_pick rfl (by first | (simp only [nf, nfS, Nat.beq] <;> rfl) | rfl) (by first | (simp only [nf, nfS, Nat.beq] <;> rfl) | rfl) ?_
        refine n_move rfl (by first | (simp only [nf, nfS, Nat.beq] <;> rfl) | rfl) ?_
        refine n_guard_yes rfl rfl rfl (by first | (simp only [nf, nfS, Nat.beq] <;> rfl) | rfl) rfl ?_
        refine n_move rfl (by first | (simp only [nf, nfS, Nat.beq] <;> rfl) | rfl) ?_
        refine n_guard_yes rfl rfl rfl (by first | (simp only [nf, nfS, Nat.beq] <;> rfl) | rfl) rfl ?_
        refine n_move rfl (by first | (simp only [nf, nfS, Nat.beq] <;> rfl) | rfl) ?_
        refine n_guard_yes rfl rfl rfl (by first | (simp only [nf, nfS, Nat.beq] <;> rfl) | rfl) rfl ?_
        refine n_move rfl (by first | (simp only [nf, nfS, Nat.beq] <;> rfl) | rfl) ?_
        refine n_guard_yes rfl rfl rfl (by first | (simp only [nf, nfS, Nat.beq] <;> rfl) | rfl) rfl ?_
        refine n_nilCheck rfl (by first | (simp only [nf, nfS, Nat.beq] <;> rfl) | rfl) rfl ?_
        refine n_guard_yes rfl rfl rfl (by first | (simp only [nf, nfS, Nat.beq] <;> rfl) | rfl) rfl ?_
        refine n_fieldAddr rfl fd217_0 ti215 rfl (by first | (simp only [nf, nfS, Nat.beq] <;> rfl) | rfl) rfl (by first | (simp only [nf, nfS, Nat.beq] <;> rfl) | rfl) ?_
        refine n_guard_yes rfl rfl rfl (by first | (simp only [nf, nfS, Nat.beq] <;> rfl) | rfl) rfl ?_
        refine n_arrAddr (q := 1) rfl Try.underlying215 ti214 (by first | (simp only [nf, nfS, Nat.beq] <;> rfl) | rfl) (by first | (simp only [nf, nfS, Nat.beq] <;> rfl) | rfl) (by decide) (by decide) rfl ?_
        refine n_guard_yes rfl rfl rfl (by first | (simp only [nf, nfS, Nat.beq] <;> rfl) | rfl) rfl ?_
        refine n_load rfl ti214 (by first | (simp only [nf, nfS, Nat.beq] <;> rfl) | rfl) (by first | (simp only [nf, nfS, Nat.beq] <;> rfl) | rfl) rfl (by first | (simp only [nf, nfS, Nat.beq] <;> rfl) | rfl) ?_
        refine n_guard_yes rfl rfl rfl (by first | (simp only [nf, nfS, Nat.beq] <;> rfl) | rfl) rfl ?_
        refine n_len rfl Try.underlying214 (by first | (simp only [nf, nfS, Nat.beq] <;> rfl) | rfl) (n := ((L true).length : Int)) (by rw [List.length_map]) ?_
        refine n_guard_yes rfl rfl rfl (by first | (simp only [nf, nfS, Nat.beq] <;> rfl) | rfl) rfl ?_
        refine n_ibin (v := .bool true) rfl (by first | (simp only [nf, nfS, Nat.beq] <;> rfl) | rfl) (by first | (simp only [nf, nfS, Nat.beq] <;> rfl) | rfl) (by show some (Value.bool (decide _)) = _; rw [decide_eq_true (by omega)]) ?_
        refine n_pick rfl (by first | (simp only [nf, nfS, Nat.beq] <;> rfl) | rfl) (by first | (simp only [nf, nfS, Nat.beq] <;> rfl) | rfl) ?_
        refine n_nilCheck rfl (by first | (simp only [nf, nfS, Nat.beq] <;> rfl) | rfl) rfl ?_
        refine n_fieldAddr rfl fd217_6 ti4 rfl (by first | (simp only [nf, nfS, Nat.beq] <;> rfl) | rfl) rfl (by first | (simp only [nf, nfS, Nat.beq] <;> rfl) | rfl) ?_
        refine n_store ti4 (by first | (simp only [nf, nfS, Nat.beq] <;> rfl) | rfl) (by first | (simp only [nf, nfS, Nat.beq] <;> rfl) | rfl) (by first | (simp only [nf, nfS, Nat.beq] <;> rfl) | rfl) rfl (by first | (simp only [nf, nfS, Nat.beq] <;> rfl) | rfl) rfl rfl rfl (by first | (simp only [nf, nfS, Nat.beq] <;> rfl) | rfl) ?_
        refine AOps.nil ?_
        refine AWP.seq ?_
        refine AWP.region ?_
        refine n_move rfl (by first | (simp only [nf, nfS, Nat.beq] <;> rfl) | rfl) ?_
        refine n_nilCheck rfl (by first | (simp only [nf, nfS, Nat.beq] <;> rfl) | rfl) rfl ?_
        refine n_fieldAddr rfl fd217_6 ti4 rfl (by first | (simp only [nf, nfS, Nat.beq] <;> rfl) | rfl) rfl (by first | (simp only [nf, nfS, Nat.beq] <;> rfl) | rfl) ?_
        refine n_load rfl ti4 (by first | (simp only [nf, nfS, Nat.beq] <;> rfl) | rfl) (by first | (simp only [nf, nfS, Nat.beq] <;> rfl) | rfl) rfl (by first | (simp only [nf, nfS, Nat.beq] <;> rfl) | rfl) ?_
        refine AOps.nil ?_
        refine AWP.cond (by first | (simp only [nf, nfS, Nat.beq] <;> rfl) | rfl) (fun hc5 => ?_) (fun hc5 => ?_)
        · try simp only [nh] at hc5
          refine AWP.seq ?_
          refine AWP.any1 6 (Ob.box (wzz (.sl (f false) ((L false).map etz) (C false)) (.sl (f true) ((L true).map etz) (C true)) (T false) ((T true).cutT (n : Int)) 0 ep jo nx) :: (S1 ++ [Ob.box (mz m), Ob.box [.sl none (((T true).cutT (n : Int)).l.map spz) .ro, vi ((T true).cutT (n : Int)).n]])) (by kernel_rfl) (by kernel_rfl) (by kernel_rfl) ?_
          refine Walk.ahead [6] (by rfl) (by kernel_rfl) (by rfl) (rs := [0]) (by rfl) (by first | (simp only [nf, nfS, Nat.beq] <;> rfl) | rfl) (fun base => by
              refine n_move rfl (by first | (simp only [nf, nfS, Nat.beq] <;> rfl) | rfl) ?_
              exact AOps.nil ⟨rfl, rfl, rfl⟩) ?_
          refine Walk.ahead [6] (by rfl) (by kernel_rfl) (by rfl) (rs := [4]) (by rfl) (by first | (simp only [nf, nfS, Nat.beq] <;> rfl) | rfl) (fun base => by
              refine n_move rfl (by first | (simp only [nf, nfS, Nat.beq] <;> rfl) | rfl) ?_
              exact AOps.nil ⟨rfl, rfl, rfl⟩) ?_
          refine Walk.ahead [6] (by rfl) (by kernel_rfl) (by rfl) (rs := [6]) (by rfl) (by first | (simp only [nf, nfS, Nat.beq] <;> rfl) | rfl) (fun base => by
              refine n_load rfl ti188 (by first | (simp only [nf, nfS, Nat.beq] <;> rfl) | rfl) (by first | (simp only [nf, nfS, Nat.beq] <;> rfl) | rfl) rfl (by first | (simp only [nf, nfS, Nat.beq] <;> rfl) | rfl) ?_
              exact AOps.nil ⟨rfl, rfl, rfl⟩) ?_
          refine Walk.ahead [4, 5, 6] (by rfl) (by kernel_rfl) (by rfl) (rs := [121]) (by rfl) (by first | (simp only [nf, nfS, Nat.beq] <;> rfl) | rfl) (fun base => by
              refine n_nilCheck rfl (by first | (simp only [nf, nfS, Nat.beq] <;> rfl) | rfl) rfl ?_
              exact AOps.nil ⟨rfl, rfl, rfl⟩) ?_
          refine Walk.ahead [5, 6] (by rfl) (by kernel_rfl) (by rfl) (rs := [124]) (by rfl) (by first | (simp only [nf, nfS, Nat.beq] <;> rfl) | rfl) (fun base => by
              refine n_fieldAddr rfl fd217_1 ti213 rfl (by first | (simp only [nf, nfS, Nat.beq] <;> rfl) | rfl) rfl (by first | (simp only [nf, nfS, Nat.beq] <;> rfl) | rfl) ?_
              exact AOps.nil ⟨rfl, rfl, rfl⟩) ?_
          refine Walk.ahead [6] (by rfl) (by kernel_rfl) (by rfl) (rs := [125, 122]) (by rfl) (by first | (simp only [nf, nfS, Nat.beq] <;> rfl) | rfl) (fun base => by
              refine n_arrAddr (q := 4) rfl Try.underlying213 ti188 (by first | (simp only [nf, nfS, Nat.beq] <;> rfl) | rfl) (by first | (simp only [nf, nfS, Nat.beq] <;> rfl) | rfl) (by decide) (by decide) rfl ?_
              exact AOps.nil ⟨rfl, rfl, rfl⟩) ?_
          refine Walk.writes (d := .any) (by rfl) (rs := [126, 123]) (by rfl) (by first | (simp only [nf, nfS, Nat.beq] <;> rfl) | rfl) (fun base => by
              refine n_store ti188 (by first | (simp only [nf, nfS, Nat.beq] <;> rfl) | rfl) (by first | (simp only [nf, nfS, Nat.beq] <;> rfl) | rfl) (by first | (simp only [nf, nfS, Nat.beq] <;> rfl) | rfl) rfl (by first | (simp only [nf, nfS, Nat.beq] <;> rfl) | rfl) rfl rfl rfl (by first | (simp only [nf, nfS, Nat.beq] <;> rfl) | rfl) ?_
              exact AOps.nil ⟨rfl, rfl, rfl⟩) ?_
          refine Walk.done ?_
          refine AWP.seq ?_
          refine AWP.any1 14 (Ob.box (wzz (.sl (f false) ((L false).map etz) (C false)) (.sl (f true) (((L true).take n).map etz) .full) (T false) ((T true).cutT (n : Int)) 0 ep jo nx) :: (S1 ++ [Ob.box (mz m), Ob.box [.sl none (((T true).cutT (n : Int)).l.map spz) .ro, vi ((T true).cutT (n : Int)).n]])) (by kernel_rfl) (by kernel_rfl) (by kernel_rfl) ?_
          refine Walk.ahead [14] (by rfl) (by kernel_rfl) (by rfl) (rs := [0]) (by rfl) (by first | (simp only [nf, nfS, Nat.beq] <;> rfl) | rfl) (fun base => by
              refine n_move rfl (by first | (simp only [nf, nfS, Nat.beq] <;> rfl) | rfl) ?_
              exact AOps.nil ⟨rfl, rfl, rfl⟩) ?_
          refine Walk.ahead [14] (by rfl) (by kernel_rfl) (by rfl) (rs := [4]) (by rfl) (by first | (simp only [nf, nfS, Nat.beq] <;> rfl) | rfl) (fun base => by
              refine n_move rfl (by first | (simp only [nf, nfS, Nat.beq] <;> rfl) | rfl) ?_
              exact AOps.nil ⟨rfl, rfl, rfl⟩) ?_
          refine Walk.ahead [14] (by rfl) (by kernel_rfl) (by rfl) (rs := [0]) (by rfl) (by first | (simp only [nf, nfS, Nat.beq] <;> rfl) | rfl) (fun base => by
              refine n_move rfl (by first | (simp only [nf, nfS, Nat.beq] <;> rfl) | rfl) ?_
              exact AOps.nil ⟨rfl, rfl, rfl⟩) ?_
          refine Walk.ahead [14] (by rfl) (by kernel_rfl) (by rfl) (rs := [4]) (by rfl) (by first | (simp only [nf, nfS, Nat.beq] <;> rfl) | rfl) (fun base => by
              refine n_move rfl (by first | (simp only [nf, nfS, Nat.beq] <;> rfl) | rfl) ?_
              exact AOps.nil ⟨rfl, rfl, rfl⟩) ?_
          refine Walk.ahead [14] (by rfl) (by kernel_rfl) (by rfl) (rs := [129]) (by rfl) (by first | (simp only [nf, nfS, Nat.beq] <;> rfl) | rfl) (fun base => by
              refine n_nilCheck rfl (by first | (simp only [nf, nfS, Nat.beq] <;> rfl) | rfl) rfl ?_
              exact AOps.nil ⟨rfl, rfl, rfl⟩) ?_
          refine Walk.ahead [14] (by rfl) (by kernel_rfl) (by rfl) (rs := [131]) (by rfl) (by first | (simp only [nf, nfS, Nat.beq] <;> rfl) | rfl) (fun base => by
              refine n_fieldAddr rfl fd217_0 ti215 rfl (by first | (simp only [nf, nfS, Nat.beq] <;> rfl) | rfl) rfl (by first | (simp only [nf, nfS, Nat.beq] <;> rfl) | rfl) ?_
              exact AOps.nil ⟨rfl, rfl, rfl⟩) ?_
          refine Walk.ahead [14] (by rfl) (by kernel_rfl) (by rfl) (rs := [132, 130]) (by rfl) (by first | (simp only [nf, nfS, Nat.beq] <;> rfl) | rfl) (fun base => by
              refine n_arrAddr (q := 1) rfl Try.underlying215 ti214 (by first | (simp only [nf, nfS, Nat.beq] <;> rfl) | rfl) (by first | (simp only [nf, nfS, Nat.beq] <;> rfl) | rfl) (by decide) (by decide) rfl ?_
              exact AOps.nil ⟨rfl, rfl, rfl⟩) ?_
          refine Walk.ahead [14] (by rfl) (by kernel_rfl) (by rfl) (rs := [133]) (by rfl) (by first | (simp only [nf, nfS, Nat.beq] <;> rfl) | rfl) (fun base => by
              refine n_load rfl ti214 (by first | (simp only [nf, nfS, Nat.beq] <;> rfl) | rfl) (by first | (simp only [nf, nfS, Nat.beq] <;> rfl) | rfl) rfl (by first | (simp only [nf, nfS, Nat.beq] <;> rfl) | rfl) ?_
              exact AOps.nil ⟨rfl, rfl, rfl⟩) ?_
          refine Walk.ahead [14] (by rfl) (by kernel_rfl) (by rfl) (rs := [5]) (by rfl) (by first | (simp only [nf, nfS, Nat.beq] <;> rfl) | rfl) (fun base => by
              refine n_move rfl (by first | (simp only [nf, nfS, Nat.beq] <;> rfl) | rfl) ?_
              exact AOps.nil ⟨rfl, rfl, rfl⟩) ?_
          refine Walk.ahead [14] (by rfl) (by kernel_rfl) (by rfl) (rs := [5]) (by rfl) (by first | (simp only [nf, nfS, Nat.beq] <;> rfl) | rfl) (fun base => by
              refine n_move rfl (by first | (simp only [nf, nfS, Nat.beq] <;> rfl) | rfl) ?_
              exact AOps.nil ⟨rfl, rfl, rfl⟩) ?_
          refine Walk.ahead [14] (by rfl) (by kernel_rfl) (by rfl) (rs := [134, 135, 136]) (by rfl) (by first | (simp only [nf, nfS, Nat.beq] <;> rfl) | rfl) (fun base => by
              refine n_slice3 (k := 0) (h := n) (ys := ((L true).take n).map etz) rfl Try.underlying214 ti224 (by first | (simp only [nf, nfS, Nat.beq] <;> rfl) | rfl) (SB.some (by first | (simp only [nf, nfS, Nat.beq] <;> rfl) | rfl) (by first | rfl | omega)) (SB.some (by first | (simp only [nf, nfS, Nat.beq] <;> rfl) | rfl) (by first | rfl | omega)) SB.none (by omega) (by rw [List.length_map]; omega) et4 (by rw [List.drop_zero, List.map_take]) ?_
              exact AOps.nil ⟨rfl, rfl, rfl⟩) ?_
          refine Walk.ahead [12, 13, 14] (by rfl) (by kernel_rfl) (by rfl) (rs := [127]) (by rfl) (by first | (simp only [nf, nfS, Nat.beq] <;> rfl) | rfl) (fun base => by
              refine n_nilCheck rfl (by first | (simp only [nf, nfS, Nat.beq] <;> rfl) | rfl) rfl ?_
              exact AOps.nil ⟨rfl, rfl, rfl⟩) ?_
          refine Walk.ahead [13, 14] (by rfl) (by kernel_rfl) (by rfl) (rs := [138]) (by rfl) (by first | (simp only [nf, nfS, Nat.beq] <;> rfl) | rfl) (fun base => by
              refine n_fieldAddr rfl fd217_0 ti215 rfl (by first | (simp only [nf, nfS, Nat.beq] <;> rfl) | rfl) rfl (by first | (simp only [nf, nfS, Nat.beq] <;> rfl) | rfl) ?_
              exact AOps.nil ⟨rfl, rfl, rfl⟩) ?_
          refine Walk.ahead [14] (by rfl) (by kernel_rfl) (by rfl) (rs := [139, 128]) (by rfl) (by first | (simp only [nf, nfS, Nat.beq] <;> rfl) | rfl) (fun base => by
              refine n_arrAddr (q := 1) rfl Try.underlying215 ti214 (by first | (simp only [nf, nfS, Nat.beq] <;> rfl) | rfl) (by first | (simp only [nf, nfS, Nat.beq] <;> rfl) | rfl) (by decide) (by decide) rfl ?_
              exact AOps.nil ⟨rfl, rfl, rfl⟩) ?_
          refine Walk.writes (d := .any) (by rfl) (rs := [140, 137]) (by rfl) (by first | (simp only [nf, nfS, Nat.beq] <;> rfl) | rfl) (fun base => by
              refine n_store ti214 (by first | (simp only [nf, nfS, Nat.beq] <;> rfl) | rfl) (by first | (simp only [nf, nfS, Nat.beq] <;> rfl) | rfl) (by first | (simp only [nf, nfS, Nat.beq] <;> rfl) | rfl) rfl (by first | (simp only [nf, nfS, Nat.beq] <;> rfl) | rfl) rfl rfl rfl (by first | (simp only [nf, nfS, Nat.beq] <;> rfl) | rfl) ?_
              exact AOps.nil ⟨rfl, rfl, rfl⟩) ?_
          refine Walk.done ?_
          refine AWP.region ?_
          refine n_move rfl (by first | (simp only [nf, nfS, Nat.beq] <;> rfl) | rfl) ?_
          refine n_nilCheck rfl (by first | (simp only [nf, nfS, Nat.beq] <;> rfl) | rfl) rfl ?_
          refine n_fieldAddr rfl fd217_4 ti4 rfl (by first | (simp only [nf, nfS, Nat.beq] <;> rfl) | rfl) rfl (by first | (simp only [nf, nfS, Nat.beq] <;> rfl) | rfl) ?_
          refine n_store ti4 (by first | (simp only [nf, nfS, Nat.beq] <;> rfl) | rfl) (by first | (simp only [nf, nfS, Nat.beq] <;> rfl) | rfl) (by first | (simp only [nf, nfS, Nat.beq] <;> rfl) | rfl) rfl (by first | (simp only [nf, nfS, Nat.beq] <;> rfl) | rfl) rfl rfl rfl (by first | (simp only [nf, nfS, Nat.beq] <;> rfl) | rfl) ?_
          refine AOps.nil ?_
          refine finK_normal .nil (by first | (simp only [nf, nfS, Nat.beq] <;> rfl) | rfl) ?_
          first
          | exact hK { putW ⟨L, T, false, ep, jo, nx⟩ false ⟨nx + 1, ep, reg false⟩ with nx := nx + 1 } (at2 f false none) (at2 C false (.own (j + 1))) _ (hs.app.put false hA2 (by omega) hk2)
          | exact hK { putW ⟨L, T, false, ep, b157, nx⟩ true x with nx := nx } (at2 f true none) (at2 C true (.own (j + 1))) _ (hs.app.put (n := nx) true hM2 (by omega) hk2)
          | exact hK (joinW ⟨L, T, false, ep, jo, nx⟩ n) f (at2 C true .full) _ (hs.app.join hcI)
          | exact hK _ f C _ (hs.app.take c)
          | exact hK ⟨L, T, false, ep, jo, nx⟩ f C _ hs.app.more
          | exact hK ⟨L, T, false, ep, b157, nx⟩ f C _ hs.app.more
        · try simp only [nh] at hc5
          refine AWP.skip ?_
          refine finK_normal .nil (by first | (simp only [nf, nfS, Nat.beq] <;> rfl) | rfl) ?_
          first
          | exact hK { putW ⟨L, T, false, ep, jo, nx⟩ false ⟨nx + 1, ep, reg false⟩ with nx := nx + 1 } (at2 f false none) (at2 C false (.own (j + 1))) _ (hs.app.put false hA2 (by omega) hk2)
          | exact hK { putW ⟨L, T, false, ep, b157, nx⟩ true x with nx := nx } (at2 f true none) (at2 C true (.own (j + 1))) _ (hs.app.put (n := nx) true hM2 (by omega) hk2)
          | exact hK (joinW ⟨L, T, false, ep, jo, nx⟩ n) f (at2 C true .full) _ (hs.app.join hcI)
          | exact hK _ f C _ (hs.app.take c)
          | exact hK ⟨L, T, false, ep, jo, nx⟩ f C _ hs.app.more
          | exact hK ⟨L, T, false, ep, b157, nx⟩ f C _ hs.app.more
      · try simp only [nh] at hc4
        refine AWP.seq ?_
        refine AWP.region ?_
        refine n_ibin rfl (by first | (simp only [nf, nfS, Nat.beq] <;> rfl) | rfl) (by first | (simp only [nf, nfS, Nat.beq] <;> rfl) | rfl) rfl ?_
        refine n_assign rfl (by first | (simp only [nf, nfS, Nat.beq] <;> rfl) | rfl) ?_
        refine AOps.nil ?_
        refine AWP.cond (by first | (simp only [nf, nfS, Nat.beq] <;> rfl) | rfl) (fun hc6 => ?_) (fun hc6 => ?_)
        · try simp only [nh] at hc6
          refine AWP.seq ?_
          refine AWP.region ?_
          refine n_move rfl (by first | (simp only [nf, nfS, Nat.beq] <;> rfl) | rfl) ?_
          refine n_move rfl (by first | (simp only [nf, nfS, Nat.beq] <;> rfl) | rfl) ?_
          refine n_nilCheck rfl (by first | (simp only [nf, nfS, Nat.beq] <;> rfl) | rfl) rfl ?_
          refine n_fieldAddr rfl fd217_0 ti215 rfl (by first | (simp only [nf, nfS, Nat.beq] <;> rfl) | rfl) rfl (by first | (simp only [nf, nfS, Nat.beq] <;> rfl) | rfl) ?_
          refine n_arrAddr (q := 1) rfl Try.underlying215 ti214 (by first | (simp only [nf, nfS, Nat.beq] <;> rfl) | rfl) (by first | (simp only [nf, nfS, Nat.beq] <;> rfl) | rfl) (by decide) (by decide) rfl ?_
          refine n_load rfl ti214 (by first | (simp only [nf, nfS, Nat.beq] <;> rfl) | rfl) (by first | (simp only [nf, nfS, Nat.beq] <;> rfl) | rfl) rfl (by first | (simp only [nf, nfS, Nat.beq] <;> rfl) | rfl) ?_
          refine n_len rfl Try.underlying214 (by first | (simp only [nf, nfS, Nat.beq] <;> rfl) | rfl) (n := ((L true).length : Int)) (by rw [List.length_map]) ?_
          refine n_assign rfl (by first | (simp only [nf, nfS, Nat.beq] <;> rfl) | rfl) ?_
          refine AOps.nil ?_
          refine AWP.seq ?_
          refine AWP.anyStill (by kernel_rfl) (by kernel_rfl) ?_
          refine Walk.still (rs := [0]) (by rfl) (by first | (simp only [nf, nfS, Nat.beq] <;> rfl) | rfl) (fun base => by
              refine n_move rfl (by first | (simp only [nf, nfS, Nat.beq] <;> rfl) | rfl) ?_
              exact AOps.nil ⟨rfl, rfl, rfl⟩) ?_
          refine Walk.still (rs := [153]) (by rfl) (by first | (simp only [nf, nfS, Nat.beq] <;> rfl) | rfl) (fun base => by
              refine n_nilCheck rfl (by first | (simp only [nf, nfS, Nat.beq] <;> rfl) | rfl) rfl ?_
              exact AOps.nil ⟨rfl, rfl, rfl⟩) ?_
          refine Walk.still (rs := [154]) (by rfl) (by first | (simp only [nf, nfS, Nat.beq] <;> rfl) | rfl) (fun base => by
              refine n_fieldAddr rfl fd217_4 ti4 rfl (by first | (simp only [nf, nfS, Nat.beq] <;> rfl) | rfl) rfl (by first | (simp only [nf, nfS, Nat.beq] <;> rfl) | rfl) ?_
              exact AOps.nil ⟨rfl, rfl, rfl⟩) ?_
          refine Walk.still (rs := [155]) (by rfl) (by first | (simp only [nf, nfS, Nat.beq] <;> rfl) | rfl) (fun base => by
              refine n_load rfl ti4 (by first | (simp only [nf, nfS, Nat.beq] <;> rfl) | rfl) (by first | (simp only [nf, nfS, Nat.beq] <;> rfl) | rfl) rfl (by first | (simp only [nf, nfS, Nat.beq] <;> rfl) | rfl) ?_
              exact AOps.nil ⟨rfl, rfl, rfl⟩) ?_
          refine Walk.still (rs := [156]) (by rfl) (by first | (simp only [nf, nfS, Nat.beq] <;> rfl) | rfl) (fun base => by
              refine n_move rfl (by first | (simp only [nf, nfS, Nat.beq] <;> rfl) | rfl) ?_
              exact AOps.nil ⟨rfl, rfl, rfl⟩) ?_
          refine Walk.name (u := 157) (fun z => .val (.bool z)) (by first | (simp only [nf, nfS, Nat.beq] <;> rfl) | rfl) (fun b157 hb157 => ?_)
          refine Walk.still (rs := [8, 157]) (by rfl) (by first | (simp only [nf, nfS, Nat.beq] <;> rfl) | rfl) (fun base => by
              refine n_soft (u := 157) (E := .val (.bool b157)) (b157) rfl rfl rfl (by first | (simp only [nf, nfS, Nat.beq] <;> rfl) | rfl) (by cases b157 <;> first | (intro _; rfl) | (intro h; exact absurd h (by decide))) (by cases b157 <;> first | (intro h; exact absurd h (by decide)) | (intro _; exact ⟨_, rfl, by first | (intro h; cases h; done) | decide | simp⟩)) (fun h => by
                  cases b157 with
                  | false => exact absurd h (by first | decide | simp)
                  | true =>
                    refine n_move rfl (by first | (simp only [nf, nfS, Nat.beq] <;> rfl) | rfl) ?_
                    exact AOps.nil ⟨rfl, rfl, rfl⟩) (AOps.nil ⟨rfl, rfl, rfl⟩)) ?_
          refine Walk.still (rs := [0, 157]) (by rfl) (by first | (simp only [nf, nfS, Nat.beq] <;> rfl) | rfl) (fun base => by
              refine n_soft (u := 157) (E := .val (.bool b157)) (b157) rfl rfl rfl (by first | (simp only [nf, nfS, Nat.beq] <;> rfl) | rfl) (by cases b157 <;> first | (intro _; rfl) | (intro h; exact absurd h (by decide))) (by cases b157 <;> first | (intro h; exact absurd h (by decide)) | (intro _; exact ⟨_, rfl, by first | (intro h; cases h; done) | decide | simp⟩)) (fun h => by
                  cases b157 with
                  | false => exact absurd h (by first | decide | simp)
                  | true =>
                    refine n_move rfl (by first | (simp only [nf, nfS, Nat.beq] <;> rfl) | rfl) ?_
                    exact AOps.nil ⟨rfl, rfl, rfl⟩) (AOps.nil ⟨rfl, rfl, rfl⟩)) ?_
          refine Walk.still (rs := [0, 157]) (by rfl) (by first | (simp only [nf, nfS, Nat.beq] <;> rfl) | rfl) (fun base => by
              refine n_soft (u := 157) (E := .val (.bool b157)) (b157) rfl rfl rfl (by first | (simp only [nf, nfS, Nat.beq] <;> rfl) | rfl) (by cases b157 <;> first | (intro _; rfl) | (intro h; exact absurd h (by decide))) (by cases b157 <;> first | (intro h; exact absurd h (by decide)) | (intro _; exact ⟨_, rfl, by first | (intro h; cases h; done) | decide | simp⟩)) (fun h => by
                  cases b157 with
                  | false => exact absurd h (by first | decide | simp)
                  | true =>
                    refine n_move rfl (by first | (simp only [nf, nfS, Nat.beq] <;> rfl) | rfl) ?_
                    exact AOps.nil ⟨rfl, rfl, rfl⟩) (AOps.nil ⟨rfl, rfl, rfl⟩)) ?_
          refine Walk.still (rs := [160, 157]) (by rfl) (by first | (simp only [nf, nfS, Nat.beq] <;> rfl) | rfl) (fun base => by
              refine n_soft (u := 157) (E := .val (.bool b157)) (b157) rfl rfl rfl (by first | (simp only [nf, nfS, Nat.beq] <;> rfl) | rfl) (by cases b157 <;> first | (intro _; rfl) | (intro h; exact absurd h (by decide))) (by cases b157 <;> first | (intro h; exact absurd h (by decide)) | (intro _; exact ⟨_, rfl, by first | (intro h; cases h; done) | decide | simp⟩)) (fun h => by
                  cases b157 with
                  | false => exact absurd h (by first | decide | simp)
                  | true =>
                    refine n_nilCheck rfl (by first | (simp only [nf, nfS, Nat.beq] <;> rfl) | rfl) rfl ?_
                    exact AOps.nil ⟨rfl, rfl, rfl⟩) (AOps.nil ⟨rfl, rfl, rfl⟩)) ?_
          refine Walk.still (rs := [161, 157]) (by rfl) (by first | (simp only [nf, nfS, Nat.beq] <;> rfl) | rfl) (fun base => by
              refine n_soft (u := 157) (E := .val (.bool b157)) (b157) rfl rfl rfl (by first | (simp only [nf, nfS, Nat.beq] <;> rfl) | rfl) (by cases b157 <;> first | (intro _; rfl) | (intro h; exact absurd h (by decide))) (by cases b157 <;> first | (intro h; exact absurd h (by decide)) | (intro _; exact ⟨_, rfl, by first | (intro h; cases h; done) | decide | simp⟩)) (fun h => by
                  cases b157 with
                  | false => exact absurd h (by first | decide | simp)
                  | true =>
                    refine n_fieldAddr rfl fd217_2 ti3 rfl (by first | (simp only [nf, nfS, Nat.beq] <;> rfl) | rfl) rfl (by first | (simp only [nf, nfS, Nat.beq] <;> rfl) | rfl) ?_
                    exact AOps.nil ⟨rfl, rfl, rfl⟩) (AOps.nil ⟨rfl, rfl, rfl⟩)) ?_
          refine Walk.still (rs := [162, 157]) (by rfl) (by first | (simp only [nf, nfS, Nat.beq] <;> rfl) | rfl) (fun base => by
              refine n_soft (u := 157) (E := .val (.bool b157)) (b157) rfl rfl rfl (by first | (simp only [nf, nfS, Nat.beq] <;> rfl) | rfl) (by cases b157 <;> first | (intro _; rfl) | (intro h; exact absurd h (by decide))) (by cases b157 <;> first | (intro h; exact absurd h (by decide)) | (intro _; exact ⟨_, rfl, by first | (intro h; cases h; done) | decide | simp⟩)) (fun h => by
                  cases b157 with
                  | false => exact absurd h (by first | decide | simp)
                  | true =>
                    refine n_load rfl ti3 (by first | (simp only [nf, nfS, Nat.beq] <;> rfl) | rfl) (by first | (simp only [nf, nfS, Nat.beq] <;> rfl) | rfl) rfl (by first | (simp only [nf, nfS, Nat.beq] <;> rfl) | rfl) ?_
                    exact AOps.nil ⟨rfl, rfl, rfl⟩) (AOps.nil ⟨rfl, rfl, rfl⟩)) ?_
          refine Walk.still (rs := [159, 157]) (by rfl) (by first | (simp only [nf, nfS, Nat.beq] <;> rfl) | rfl) (fun base => by
              refine n_soft (u := 157) (E := .val (.bool b157)) (b157) rfl rfl rfl (by first | (simp only [nf, nfS, Nat.beq] <;> rfl) | rfl) (by cases b157 <;> first | (intro _; rfl) | (intro h; exact absurd h (by decide))) (by cases b157 <;> first | (intro h; exact absurd h (by decide)) | (intro _; exact ⟨_, rfl, by first | (intro h; cases h; done) | decide | simp⟩)) (fun h => by
                  cases b157 with
                  | false => exact absurd h (by first | decide | simp)
                  | true =>
                    refine n_nilCheck rfl (by first | (simp only [nf, nfS, Nat.beq] <;> rfl) | rfl) rfl ?_
                    exact AOps.nil ⟨rfl, rfl, rfl⟩) (AOps.nil ⟨rfl, rfl, rfl⟩)) ?_
          refine Walk.still (rs := [164, 157]) (by rfl) (by first | (simp only [nf, nfS, Nat.beq] <;> rfl) | rfl) (fun base => by
              refine n_soft (u := 157) (E := .val (.bool b157)) (b157) rfl rfl rfl (by first | (simp only [nf, nfS, Nat.beq] <;> rfl) | rfl) (by cases b157 <;> first | (intro _; rfl) | (intro h; exact absurd h (by decide))) (by cases b157 <;> first | (intro h; exact absurd h (by decide)) | (intro _; exact ⟨_, rfl, by first | (intro h; cases h; done) | decide | simp⟩)) (fun h => by
                  cases b157 with
                  | false => exact absurd h (by first | decide | simp)
                  | true =>
                    refine n_fieldAddr rfl fd217_0 ti215 rfl (by first | (simp only [nf, nfS, Nat.beq] <;> rfl) | rfl) rfl (by first | (simp only [nf, nfS, Nat.beq] <;> rfl) | rfl) ?_
                    exact AOps.nil ⟨rfl, rfl, rfl⟩) (AOps.nil ⟨rfl, rfl, rfl⟩)) ?_
          refine Walk.still (rs := [165, 163, 157]) (by rfl) (by first | (simp only [nf, nfS, Nat.beq] <;> rfl) | rfl) (fun base => by
              refine n_soft (u := 157) (E := .val (.bool b157)) (b157) rfl rfl rfl (by first | (simp only [nf, nfS, Nat.beq] <;> rfl) | rfl) (by cases b157 <;> first | (intro _; rfl) | (intro h; exact absurd h (by decide))) (by cases b157 <;> first | (intro h; exact absurd h (by decide)) | (intro _; exact ⟨_, rfl, by first | (intro h; cases h; done) | decide | simp⟩)) (fun h => by
                  cases b157 with
                  | false => exact absurd h (by first | decide | simp)
                  | true =>
                    refine n_arrAddr (q := 0) rfl Try.underlying215 ti214 (by first | (simp only [nf, nfS, Nat.beq] <;> rfl) | rfl) (by first | (simp only [nf, nfS, Nat.beq] <;> rfl) | rfl) (by decide) (by decide) rfl ?_
                    exact AOps.nil ⟨rfl, rfl, rfl⟩) (AOps.nil ⟨rfl, rfl, rfl⟩)) ?_
          refine Walk.still (rs := [166, 157]) (by rfl) (by first | (simp only [nf, nfS, Nat.beq] <;> rfl) | rfl) (fun base => by
              refine n_soft (u := 157) (E := .val (.bool b157)) (b157) rfl rfl rfl (by first | (simp only [nf, nfS, Nat.beq] <;> rfl) | rfl) (by cases b157 <;> first | (intro _; rfl) | (intro h; exact absurd h (by decide))) (by cases b157 <;> first | (intro h; exact absurd h (by decide)) | (intro _; exact ⟨_, rfl, by first | (intro h; cases h; done) | decide | simp⟩)) (fun h => by
                  cases b157 with
                  | false => exact absurd h (by first | decide | simp)
                  | true =>
                    refine n_load rfl ti214 (by first | (simp only [nf, nfS, Nat.beq] <;> rfl) | rfl) (by first | (simp only [nf, nfS, Nat.beq] <;> rfl) | rfl) rfl (by first | (simp only [nf, nfS, Nat.beq] <;> rfl) | rfl) ?_
                    exact AOps.nil ⟨rfl, rfl, rfl⟩) (AOps.nil ⟨rfl, rfl, rfl⟩)) ?_
          refine Walk.still (rs := [167, 157]) (by rfl) (by first | (simp only [nf, nfS, Nat.beq] <;> rfl) | rfl) (fun base => by
              refine n_soft (u := 157) (E := .val (.bool b157)) (b157) rfl rfl rfl (by first | (simp only [nf, nfS, Nat.beq] <;> rfl) | rfl) (by cases b157 <;> first | (intro _; rfl) | (intro h; exact absurd h (by decide))) (by cases b157 <;> first | (intro h; exact absurd h (by decide)) | (intro _; exact ⟨_, rfl, by first | (intro h; cases h; done) | decide | simp⟩)) (fun h => by
                  cases b157 with
                  | false => exact absurd h (by first | decide | simp)
                  | true =>
                    refine n_len rfl Try.underlying214 (by first | (simp only [nf, nfS, Nat.beq] <;> rfl) | rfl) (n := ((L false).length : Int)) (by rw [List.length_map]) ?_
                    exact AOps.nil ⟨rfl, rfl, rfl⟩) (AOps.nil ⟨rfl, rfl, rfl⟩)) ?_
          refine Walk.still (rs := [158, 168, 157]) (by rfl) (by first | (simp only [nf, nfS, Nat.beq] <;> rfl) | rfl) (fun base => by
              refine n_soft (u := 157) (E := .val (.bool b157)) (b157) rfl rfl rfl (by first | (simp only [nf, nfS, Nat.beq] <;> rfl) | rfl) (by cases b157 <;> first | (intro _; rfl) | (intro h; exact absurd h (by decide))) (by cases b157 <;> first | (intro h; exact absurd h (by decide)) | (intro _; exact ⟨_, rfl, by first | (intro h; cases h; done) | decide | simp⟩)) (fun h => by
                  cases b157 with
                  | false => exact absurd h (by first | decide | simp)
                  | true =>
                    refine n_ibin rfl (by first | (simp only [nf, nfS, Nat.beq] <;> rfl) | rfl) (by first | (simp only [nf, nfS, Nat.beq] <;> rfl) | rfl) rfl ?_
                    exact AOps.nil ⟨rfl, rfl, rfl⟩) (AOps.nil ⟨rfl, rfl, rfl⟩)) ?_
          refine Walk.still (rs := [157, 169]) (by rfl) (by first | (simp only [nf, nfS, Nat.beq] <;> rfl) | rfl) (fun base => by
              refine n_pick_and rfl (by first | (simp only [nf, nfS, Nat.beq] <;> rfl) | rfl) (fun h => by cases b157 with | false => exact absurd h (by decide) | true => exact (by first | (simp only [nf, nfS, Nat.beq] <;> rfl) | rfl)) ?_
              exact AOps.nil ⟨rfl, rfl, rfl⟩) ?_
          subst hb157
          refine Walk.done ?_
          refine AWP.cond (by first | (simp only [nf, nfS, Nat.beq] <;> rfl) | rfl) (fun hc7 => ?_) (fun hc7 => ?_)
          · try simp only [nh] at hc7
            have hjl : b157 = true ∧ (L true).length < (L false).length := by { simp at hc7; exact hc7 }
            obtain ⟨hj, hlt2⟩ := hjl
            obtain ⟨x, hx⟩ : ∃ x, (L false)[(L true).length]? = some x := ⟨_, List.getElem?_eq_getElem hlt2⟩
            have hxo := map_at etz hx
            obtain ⟨hM1, hM2⟩ := hI.mirror (w := ⟨L, T, false, ep, b157, nx⟩) (by omega) hj hx
            dsimp only at hM1 hM2
            refine AWP.anyThen 14 (by kernel_rfl) (by kernel_rfl) rfl (by kernel_rfl) (by kernel_rfl) ?_
            refine Walk.still (rs := [0]) (by rfl) (by first | (simp only [nf, nfS, Nat.beq] <;> rfl) | rfl) (fun base => by
                refine n_move rfl (by first | (simp only [nf, nfS, Nat.beq] <;> rfl) | rfl) ?_
                exact AOps.nil ⟨rfl, rfl, rfl⟩) ?_
            refine Walk.still (rs := [4]) (by rfl) (by first | (simp only [nf, nfS, Nat.beq] <;> rfl) | rfl) (fun base => by
                refine n_move rfl (by first | (simp only [nf, nfS, Nat.beq] <;> rfl) | rfl) ?_
                exact AOps.nil ⟨rfl, rfl, rfl⟩) ?_
            refine Walk.still (rs := [0]) (by rfl) (by first | (simp only [nf, nfS, Nat.beq] <;> rfl) | rfl) (fun base => by
                refine n_move rfl (by first | (simp only [nf, nfS, Nat.beq] <;> rfl) | rfl) ?_
                exact AOps.nil ⟨rfl, rfl, rfl⟩) ?_
            refine Walk.still (rs := [0]) (by rfl) (by first | (simp only [nf, nfS, Nat.beq] <;> rfl) | rfl) (fun base => by
                refine n_move rfl (by first | (simp only [nf, nfS, Nat.beq] <;> rfl) | rfl) ?_
                exact AOps.nil ⟨rfl, rfl, rfl⟩) ?_
            refine Walk.still (rs := [174]) (by rfl) (by first | (simp only [nf, nfS, Nat.beq] <;> rfl) | rfl) (fun base => by
                refine n_nilCheck rfl (by first | (simp only [nf, nfS, Nat.beq] <;> rfl) | rfl) rfl ?_
                exact AOps.nil ⟨rfl, rfl, rfl⟩) ?_
            refine Walk.still (rs := [175]) (by rfl) (by first | (simp only [nf, nfS, Nat.beq] <;> rfl) | rfl) (fun base => by
                refine n_fieldAddr rfl fd217_2 ti3 rfl (by first | (simp only [nf, nfS, Nat.beq] <;> rfl) | rfl) rfl (by first | (simp only [nf, nfS, Nat.beq] <;> rfl) | rfl) ?_
                exact AOps.nil ⟨rfl, rfl, rfl⟩) ?_
            refine Walk.still (rs := [176]) (by rfl) (by first | (simp only [nf, nfS, Nat.beq] <;> rfl) | rfl) (fun base => by
                refine n_load rfl ti3 (by first | (simp only [nf, nfS, Nat.beq] <;> rfl) | rfl) (by first | (simp only [nf, nfS, Nat.beq] <;> rfl) | rfl) rfl (by first | (simp only [nf, nfS, Nat.beq] <;> rfl) | rfl) ?_
                exact AOps.nil ⟨rfl, rfl, rfl⟩) ?_
            refine Walk.still (rs := [173]) (by rfl) (by first | (simp only [nf, nfS, Nat.beq] <;> rfl) | rfl) (fun base => by
                refine n_nilCheck rfl (by first | (simp only [nf, nfS, Nat.beq] <;> rfl) | rfl) rfl ?_
                exact AOps.nil ⟨rfl, rfl, rfl⟩) ?_
            refine Walk.still (rs := [178]) (by rfl) (by first | (simp only [nf, nfS, Nat.beq] <;> rfl) | rfl) (fun base => by
                refine n_fieldAddr rfl fd217_0 ti215 rfl (by first | (simp only [nf, nfS, Nat.beq] <;> rfl) | rfl) rfl (by first | (simp only [nf, nfS, Nat.beq] <;> rfl) | rfl) ?_
                exact AOps.nil ⟨rfl, rfl, rfl⟩) ?_
            refine Walk.still (rs := [179, 177]) (by rfl) (by first | (simp only [nf, nfS, Nat.beq] <;> rfl) | rfl) (fun base => by
                refine n_arrAddr (q := 0) rfl Try.underlying215 ti214 (by first | (simp only [nf, nfS, Nat.beq] <;> rfl) | rfl) (by first | (simp only [nf, nfS, Nat.beq] <;> rfl) | rfl) (by decide) (by decide) rfl ?_
                exact AOps.nil ⟨rfl, rfl, rfl⟩) ?_
            refine Walk.still (rs := [180]) (by rfl) (by first | (simp only [nf, nfS, Nat.beq] <;> rfl) | rfl) (fun base => by
                refine n_load rfl ti214 (by first | (simp only [nf, nfS, Nat.beq] <;> rfl) | rfl) (by first | (simp only [nf, nfS, Nat.beq] <;> rfl) | rfl) rfl (by first | (simp only [nf, nfS, Nat.beq] <;> rfl) | rfl) ?_
                exact AOps.nil ⟨rfl, rfl, rfl⟩) ?_
            refine Walk.still (rs := [8]) (by rfl) (by first | (simp only [nf, nfS, Nat.beq] <;> rfl) | rfl) (fun base => by
                refine n_move rfl (by first | (simp only [nf, nfS, Nat.beq] <;> rfl) | rfl) ?_
                exact AOps.nil ⟨rfl, rfl, rfl⟩) ?_
            refine Walk.still (rs := [181, 182]) (by rfl) (by first | (simp only [nf, nfS, Nat.beq] <;> rfl) | rfl) (fun base => by
                refine n_indexAddr rfl Try.underlying214 ti224 rfl (by first | (simp only [nf, nfS, Nat.beq] <;> rfl) | rfl) (by first | (simp only [nf, nfS, Nat.beq] <;> rfl) | rfl) (by omega) (by exact hxo) rfl ?_
                exact AOps.nil ⟨rfl, rfl, rfl⟩) ?_
            refine Walk.still (rs := [183]) (by rfl) (by first | (simp only [nf, nfS, Nat.beq] <;> rfl) | rfl) (fun base => by
                refine n_load rfl ti224 (by first | (simp only [nf, nfS, Nat.beq] <;> rfl) | rfl) (by first | (simp only [nf, nfS, Nat.beq] <;> rfl) | rfl) rfl (by first | (simp only [nf, nfS, Nat.beq] <;> rfl) | rfl) ?_
                exact AOps.nil ⟨rfl, rfl, rfl⟩) ?_
            refine Walk.done ?_
            refine op_callK (dst := some 185) rfl cf244 rfl (Eq.trans (by simp only [nl] <;> rfl) (by first | (simp only [nf, nfS, Nat.beq] <;> rfl) | rfl)) (put1 (x := x) (hs.app.cap true) (by have := hln true; omega) (hg true) (htl true) hM1 (fun S2 j hk2 => ?_))
            refine AOps.nil ?_
            refine finK_normal .nil (by first | (simp only [nf, nfS, Nat.beq] <;> rfl) | rfl) ?_
            first
            | exact hK { putW ⟨L, T, false, ep, jo, nx⟩ false ⟨nx + 1, ep, reg false⟩ with nx := nx + 1 } (at2 f false none) (at2 C false (.own (j + 1))) _ (hs.app.put false hA2 (by omega) hk2)
            | exact hK { putW ⟨L, T, false, ep, b157, nx⟩ true x with nx := nx } (at2 f true none) (at2 C true (.own (j + 1))) _ (hs.app.put (n := nx) true hM2 (by omega) hk2)
            | exact hK (joinW ⟨L, T, false, ep, jo, nx⟩ n) f (at2 C true .full) _ (hs.app.join hcI)
            | exact hK _ f C _ (hs.app.take c)
            | exact hK ⟨L, T, false, ep, jo, nx⟩ f C _ hs.app.more
            | exact hK ⟨L, T, false, ep, b157, nx⟩ f C _ hs.app.more
          · try simp only [nh] at hc7
            refine AWP.skip ?_
            refine finK_normal .nil (by first | (simp only [nf, nfS, Nat.beq] <;> rfl) | rfl) ?_
            first
            | exact hK { putW ⟨L, T, false, ep, jo, nx⟩ false ⟨nx + 1, ep, reg false⟩ with nx := nx + 1 } (at2 f false none) (at2 C false (.own (j + 1))) _ (hs.app.put false hA2 (by omega) hk2)
            | exact hK { putW ⟨L, T, false, ep, b157, nx⟩ true x with nx := nx } (at2 f true none) (at2 C true (.own (j + 1))) _ (hs.app.put (n := nx) true hM2 (by omega) hk2)
            | exact hK (joinW ⟨L, T, false, ep, jo, nx⟩ n) f (at2 C true .full) _ (hs.app.join hcI)
            | exact hK _ f C _ (hs.app.take c)
            | exact hK ⟨L, T, false, ep, jo, nx⟩ f C _ hs.app.more
            | exact hK ⟨L, T, false, ep, b157, nx⟩ f C _ hs.app.more
        · try simp only [nh] at hc6
          refine AWP.skip ?_
          refine finK_normal .nil (by first | (simp only [nf, nfS, Nat.beq] <;> rfl) | rfl) ?_
          first
          | exact hK { putW ⟨L, T, false, ep, jo, nx⟩ false ⟨nx + 1, ep, reg false⟩ with nx := nx + 1 } (at2 f false none) (at2 C false (.own (j + 1))) _ (hs.app.put false hA2 (by omega) hk2)
          | exact hK { putW ⟨L, T, false, ep, b157, nx⟩ true x with nx := nx } (at2 f true none) (at2 C true (.own (j + 1))) _ (hs.app.put (n := nx) true hM2 (by omega) hk2)
          | exact hK (joinW ⟨L, T, false, ep, jo, nx⟩ n) f (at2 C true .full) _ (hs.app.join hcI)
          | exact hK _ f C _ (hs.app.take c)
          | exact hK ⟨L, T, false, ep, jo, nx⟩ f C _ hs.app.more
          | exact hK ⟨L, T, false, ep, b157, nx⟩ f C _ hs.app.more

end Go.Proofs.Ytanfmpkjcoolmaa.Mm
