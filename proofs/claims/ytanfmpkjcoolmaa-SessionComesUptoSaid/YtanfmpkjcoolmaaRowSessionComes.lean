/- SessionComes: true of every input whose bulk is at most 1048576. Conditions: none but that bound. -/
import Derived.Test.YtanfmpkjcoolmaaFacts
import Derived.Test.YtanfmpkjcoolmaaRows
import Derived.Test.YtanfmpkjcoolmaaAbsR
import Derived.Test.YtanfmpkjcoolmaaSgA
import Derived.WalkKit
import Derived.ProofKit
import Derived.OpenShut
import Derived.JoinedCond
import Derived.ChangeOld
import Derived.Below
import Derived.Carry
namespace Go.Proofs.Ytanfmpkjcoolmaa.sessionComes
open Go.ChangeShapes Go.WideShapes Go.ChangeAt Go.RowKit Go.Proofs.Ytanfmpkjcoolmaa.Rd Go.Abs Go.Proofs.Ytanfmpkjcoolmaa
set_option linter.unusedVariables false

theorem j0 : (Rows.sessionComesUptoRow.wf (OpenSpec.ofChange (Rows.OpenSpec.upto Rows.sessionComesSpec).bare)) = true := by kernel_rfl
theorem j3 : (Try.f21.params.all (Try.prog.readableRec ·)) = true := by kernel_rfl
theorem j4 : (namedTie Try.prog Rows.sessionComesUptoRow.named (Rows.OpenSpec.upto Rows.sessionComesSpec).bare.vars) = true := by kernel_rfl
theorem j5 : ((Rows.sessionComesUptoRow.stops == [])) = true := by kernel_rfl
theorem j7 : ((Rows.sessionComesUptoRow.knobs == [])) = true := by kernel_rfl
theorem j9 : ((Rows.sessionComesUptoRow.inPlace == Try.prog.inPlace 21)) = true := by kernel_rfl
theorem j10 : ((Rows.sessionComesUptoRow.unfollowed == Try.prog.unfollowed 21)) = true := by kernel_rfl
theorem j11 : ((Rows.sessionComesUptoRow.recurses == Try.prog.recurses 21)) = true := by kernel_rfl
theorem j12 : ((Rows.sessionComesUptoRow.named == Try.prog.varsNamed 21)) = true := by kernel_rfl
theorem j13 : ((Rows.sessionComesUptoRow.maps == (Try.f21.params.toList ++ (Rows.OpenSpec.upto Rows.sessionComesSpec).bare.plain.varTypes Try.prog).any (Try.prog.mapsRec ·))) = true := by kernel_rfl
theorem j14 : ((Rows.sessionComesUptoRow.ifaces == (Try.f21.params.toList ++ (Rows.OpenSpec.upto Rows.sessionComesSpec).bare.plain.varTypes Try.prog).any (Try.prog.ifacesRec ·))) = true := by kernel_rfl
theorem j15 : ((Rows.sessionComesUptoRow.mapsOut == Try.prog.mapsAmong Try.f21.resultTypes.toList)) = true := by kernel_rfl
theorem j16 : ((Rows.sessionComesUptoRow.loops == (Try.f21.params.toList ++ (Rows.OpenSpec.upto Rows.sessionComesSpec).bare.plain.varTypes Try.prog).any (Try.prog.loopsFrom ·))) = true := by kernel_rfl
theorem j17 : ((Rows.sessionComesUptoRow.wideKeys == (Try.f21.params.toList ++ (Rows.OpenSpec.upto Rows.sessionComesSpec).bare.plain.varTypes Try.prog ++ Try.f21.resultTypes.toList).any (Try.prog.wideKeysFrom ·))) = true := by kernel_rfl
theorem j18 : ((Rows.OpenSpec.upto Rows.sessionComesSpec).bare.vars.all (Try.prog.varReadable ·)) = true := by kernel_rfl
theorem j19 : (Try.f21.resultTypes.all (fun t => Try.prog.readableRec t && decide (t < Try.prog.types.size))) = true := by kernel_rfl
theorem j20 : ((Rows.sessionComesUptoRow.ifacesOut == Try.f21.resultTypes.toList.any (Try.prog.ifacesRec ·))) = true := by kernel_rfl
theorem j21 : ((Rows.sessionComesUptoRow.loopsOut == Try.f21.resultTypes.toList.any (Try.prog.loopsFrom ·))) = true := by kernel_rfl
theorem j22 : ((Rows.sessionComesUptoRow.plainKeys == Try.prog.plainKeys)) = true := by kernel_rfl
theorem j23 : (Rows.sessionComesUptoRow.shortTexts.isNone) = true := by kernel_rfl
theorem j26 : ((Rows.sessionComesUptoRow.lifted == Try.prog.liftsFinal)) = true := by rw [Facts.lifts]; rfl
theorem j27 : ((Try.prog.make == some Rows.sessionComesUptoRow.make)) = true := by rw [Facts.made]; rfl
theorem j28 : ((Rows.sessionComesUptoRow.kinds == (if Rows.sessionComesUptoRow.domain.isEmpty then [] else Try.f21.params.toList.map fun t => match Try.prog.underlying t with | some (.int k) => some k | _ => none))) = true := by kernel_rfl
theorem j29 : ((Rows.sessionComesUptoRow.pinned == Rows.sessionComesUptoRow.pinnedBy)) = true := by kernel_rfl
theorem j30 : ((Rows.sessionComesUptoRow.veiled == (Try.f21.params.toList ++ (Rows.OpenSpec.upto Rows.sessionComesSpec).bare.plain.varTypes Try.prog ++ Try.f21.resultTypes.toList).any (Try.prog.veiledRec ·))) = true := by kernel_rfl
theorem j31 : (Rows.sessionComesUptoRow.veiledFits Try.prog Try.f21.params.toList (Try.f21.params.toList ++ (Rows.OpenSpec.upto Rows.sessionComesSpec).bare.plain.varTypes Try.prog ++ Try.f21.resultTypes.toList)) = true := by kernel_rfl
set_option maxRecDepth 100000 in
theorem closed : joinedFacts Try.prog 21 Try.f21 (Rows.OpenSpec.upto Rows.sessionComesSpec).bare Rows.sessionComesUptoRow = true := (Facts.and2 (Facts.and2 (Facts.and2 (Facts.and2 (Facts.and2 (Facts.and2 (Facts.and2 (Facts.and2 (Facts.and2 (Facts.and2 (Facts.and2 (Facts.and2 (Facts.and2 (Facts.and2 (Facts.and2 (Facts.and2 (Facts.and2 (Facts.and2 (Facts.and2 (Facts.and2 (Facts.and2 (Facts.and2 (Facts.and2 (Facts.and2 (Facts.and2 (Facts.and2 (Facts.and2 (Facts.and2 (Facts.and2 (Facts.and2 (Facts.and2 j0 Facts.laidOut) Facts.rowed) j3) j4) j5) Facts.stops) j7) Facts.stopKnobs) j9) j10) j11) j12) j13) j14) j15) j16) j17) j18) j19) j20) j21) j22) j23) Facts.heard) Facts.enter) j26) j27) j28) j29) j30) j31)
theorem own : ownKnob Try.prog.godebug = none := by kernel_rfl
theorem laidOut : laidOutB Try.prog = true := Facts.laidOut
theorem ty3 : Ty Try.prog 3 (fun n : Int => [.val (.int .i64 n)]) (okI .i64) (fun _ => 1) := Ty.int Try.underlying3 (by kernel_rfl)
theorem ty4 : Ty Try.prog 4 (fun b : Bool => [.val (.bool b)]) (fun _ => True) (fun _ => 1) := Ty.bool Try.underlying4 (by kernel_rfl)
theorem ty120 : Ty Try.prog 120 (fun n : Int => [.val (.int .u16 n)]) (okI .u16) (fun _ => 1) := Ty.int Try.underlying120 (by kernel_rfl)
theorem ty5 : Ty Try.prog 5 (fun n : Int => [.val (.int .u8 n)]) (okI .u8) (fun _ => 1) := Ty.int Try.underlying5 (by kernel_rfl)
theorem ty151 : Ty Try.prog 151 (ntz : Nt → List D) (Nt.Ok) (fun _ => 1) :=
  (Ty.structN (P := Try.prog) (t := 151) Try.underlying151 (by kernel_rfl) (Fs.cons (n := 1) ty3 rfl (by kernel_rfl) (Fs.cons (n := 1) ty4 rfl (by kernel_rfl) (Fs.cons (n := 1) ty120 rfl (by kernel_rfl) (Fs.cons (n := 1) ty5 rfl (by kernel_rfl) (Fs.nil 4)))))).map (fun p => (⟨p.1, p.2.1, p.2.2.1, p.2.2.2.1⟩ : Nt)) (fun a => (a.d, a.w, a.n, a.v, ())) (fun _ => rfl) (fun _ => rfl) (fun p h => ⟨⟨h.2.2.1.1, h.2.2.1.2⟩, ⟨h.2.2.2.1.1, h.2.2.2.1.2⟩⟩) (fun _ => by first | omega | (dsimp only; omega))
theorem ty138 : Ty Try.prog 138 (fun l : List Nt => [.sl none (l.map ntz) .ro]) (fun l => ∀ a ∈ l, (Nt.Ok) a) (fun l => (l.map (fun _ => 1)).sum + 1) := Ty.slice Try.underlying138 (by kernel_rfl) ty151
theorem len_ok {H : Type} {α : Type} {d : DataW H} {xs : List α} (h : (xs.map fun _ => 1).sum + 1 ≤ Rows.uptoBulk d) (hb : Rows.uptoBulk d ≤ 1048576) : xs.length ≤ 1048576 := by
  have := len_le_sum (sz := fun _ : α => 1) (fun _ => Nat.le_refl _) xs
  omega
set_option maxRecDepth 100000 in
theorem contract (H : Type) (enc : TypeId × Value → H) (W : World) (base : Nat) (args : Array Value) (ds gs : List (DataW H)) (before : List MemPlace)
    (hval : ∀ (j : Nat) t v, Try.f21.params[j]? = some t → args[j]? = some v → Value.okWide Try.prog W .any base t v)
    (hW : DataW.Whole enc Try.prog Try.f21.params.toList Rows.sessionComesSpec.vars false W args.toList ds gs before) (hk : Rows.uptoSmall H (ds ++ gs) = true) :
    Calls Try.prog 21 args W fun e W' => ∃ v, e = .returned v ∧ Rows.sessionComesSpec.post enc Try.prog Try.f21 false true false false W args v W' := by
  have hW' := hW
  obtain ⟨p, q, hA0, hV, rfl, hfz, hnd⟩ := hW
  have hA : DataW.TrodAll enc Try.prog W 0 (fun _ => true) true Try.f21.params.toList args.toList ds p := hA0
  rw [Try.params21] at hA hval
  obtain ⟨v0, vs0, d0, ds0, p0, q0, hargs, rfl, rfl, h0, r0⟩ := trodAll_cons hA
  obtain ⟨rfl, rfl, rfl⟩ := trodAll_nil r0
  obtain rfl : args = #[v0] := by cases args; simp_all
  obtain ⟨rfl, rfl⟩ := trodVars_none hV
  clear hA0
  simp only [List.append_nil] at hW' hk
  have hb : Rows.uptoBulkAll [d0] ≤ 1048576 := of_decide_eq_true hk
  simp only [Rows.uptoBulkAll] at hb
  have k0 := h0
  have lt0 : ∀ x ∈ p0, x.block < W.heap.size := by obtain ⟨m, hm⟩ := k0; exact DataW.trod_lt m _ _ _ hm
  obtain ⟨a0, len0, cap0, rfl⟩ := okWide_slice Try.underlying138 (hval 0 138 v0 rfl rfl)
  obtain ⟨f0, hf0⟩ := h0
  obtain ⟨nets, ok0, cr0, sz0⟩ := ty138.read hf0
  refine (law_calls (Sg.Comes_calls nets ok0 (len_ok sz0 (by omega))) (CR.cons (arg_one cr0) CR.nil)).mono fun e W' ⟨he, bel⟩ => ?_
  subst he
  exact ⟨_, rfl, _, _, _, [], _, [], hW', trodAll_mk1 (shut_bool Try.underlying4 _), (trodAll_cons_mk (Below.trod laidOut (by kernel_rfl) (of_decide_eq_true (by kernel_rfl)) k0 bel lt0) trodAll_mk0), rfl, bel.frame _, fun h => by cases h⟩

set_option maxRecDepth 100000 in
theorem lifted (os : Os) (started : os.Started) (H : Type) (enc : TypeId × Value → H) (F : Stop.Interp) :
    ReturnsInHanded {} Try.checked os 21 .any ((Rows.OpenSpec.upto Rows.sessionComesSpec).pre6 enc Try.prog Try.f21 Rows.sessionComesUptoRow.domain false) (((Rows.OpenSpec.upto Rows.sessionComesSpec).at F).post enc Try.prog Try.f21 false true false false) := by
  refine returnsInHanded_of_cond (C := Try.checked) (s := Rows.OpenSpec.upto Rows.sessionComesSpec) (k := Rows.uptoSmall) rfl own started (by kernel_rfl) Try.func21
    (OpenSpec.witness (enc := enc) (C := Try.checked) (s := Rows.OpenSpec.upto Rows.sessionComesSpec) (k := Rows.uptoSmall) rfl false ⟨#[], #[.slice none 0 0], []⟩ 8 (by kernel_rfl) (by kernel_rfl) (by kernel_rfl)
      (x := ([.nil], [], [])) (by kernel_rfl) rfl (by kernel_rfl)) ?_
  intro W base args ds gs before hval hW _ hk _
  exact contract H enc W base args ds gs before hval hW hk

theorem over : Rows.sessionComesUptoRow.holds Try.pinned (Rows.OpenSpec.upto Rows.sessionComesSpec) :=
  OpenClaim.holds_of_cond 21 Try.f21 rfl rfl rfl rfl rfl rfl rfl ⟨rfl, rfl, rfl, rfl, rfl⟩ rfl rfl rfl rfl rfl (by kernel_rfl) Try.func21 closed
    (of_decide_eq_true (by kernel_rfl)) (by unfold Func.isWrapper; first | (rw [if_pos (by decide +kernel)]; kernel_rfl) | (rw [if_neg (by decide +kernel)]; exact ⟨rfl, rfl⟩))
    (fun os started H enc _ F => lifted os started H enc F)

theorem proved : Rows.SessionComesUptoSaid := over
end Go.Proofs.Ytanfmpkjcoolmaa.sessionComes
namespace Go.Proofs.Ytanfmpkjcoolmaa
/-- The statement, under a short name, for the claim. -/
theorem sessionComes_upto : Rows.SessionComesUptoSaid := sessionComes.proved
#print axioms sessionComes_upto
end Go.Proofs.Ytanfmpkjcoolmaa
