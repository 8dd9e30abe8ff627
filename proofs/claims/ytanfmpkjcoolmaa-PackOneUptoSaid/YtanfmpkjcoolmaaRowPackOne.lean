/- PackOne: true of every input whose bulk is at most 1048576. Conditions: none but that bound. -/
import Derived.Test.YtanfmpkjcoolmaaFacts
import Derived.Test.YtanfmpkjcoolmaaRows
import Derived.Test.YtanfmpkjcoolmaaAbsR
import Derived.Test.YtanfmpkjcoolmaaNuA
import Derived.WalkKit
import Derived.ProofKit
import Derived.OpenShut
import Derived.JoinedCond
import Derived.ChangeOld
import Derived.Below
import Derived.Carry
namespace Go.Proofs.Ytanfmpkjcoolmaa.packOne
open Go.ChangeShapes Go.WideShapes Go.ChangeAt Go.RowKit Go.Proofs.Ytanfmpkjcoolmaa.Rd Go.Abs Go.Proofs.Ytanfmpkjcoolmaa
set_option linter.unusedVariables false

theorem j0 : (Rows.packOneUptoRow.wf (OpenSpec.ofChange (Rows.OpenSpec.upto Rows.packOneSpec).bare)) = true := by kernel_rfl
theorem j3 : (Try.f17.params.all (Try.prog.readableRec ·)) = true := by kernel_rfl
theorem j4 : (namedTie Try.prog Rows.packOneUptoRow.named (Rows.OpenSpec.upto Rows.packOneSpec).bare.vars) = true := by kernel_rfl
theorem j5 : ((Rows.packOneUptoRow.stops == [])) = true := by kernel_rfl
theorem j7 : ((Rows.packOneUptoRow.knobs == [])) = true := by kernel_rfl
theorem j9 : ((Rows.packOneUptoRow.inPlace == Try.prog.inPlace 17)) = true := by kernel_rfl
theorem j10 : ((Rows.packOneUptoRow.unfollowed == Try.prog.unfollowed 17)) = true := by kernel_rfl
theorem j11 : ((Rows.packOneUptoRow.recurses == Try.prog.recurses 17)) = true := by kernel_rfl
theorem j12 : ((Rows.packOneUptoRow.named == Try.prog.varsNamed 17)) = true := by kernel_rfl
theorem j13 : ((Rows.packOneUptoRow.maps == (Try.f17.params.toList ++ (Rows.OpenSpec.upto Rows.packOneSpec).bare.plain.varTypes Try.prog).any (Try.prog.mapsRec ·))) = true := by kernel_rfl
theorem j14 : ((Rows.packOneUptoRow.ifaces == (Try.f17.params.toList ++ (Rows.OpenSpec.upto Rows.packOneSpec).bare.plain.varTypes Try.prog).any (Try.prog.ifacesRec ·))) = true := by kernel_rfl
theorem j15 : ((Rows.packOneUptoRow.mapsOut == Try.prog.mapsAmong Try.f17.resultTypes.toList)) = true := by kernel_rfl
theorem j16 : ((Rows.packOneUptoRow.loops == (Try.f17.params.toList ++ (Rows.OpenSpec.upto Rows.packOneSpec).bare.plain.varTypes Try.prog).any (Try.prog.loopsFrom ·))) = true := by kernel_rfl
theorem j17 : ((Rows.packOneUptoRow.wideKeys == (Try.f17.params.toList ++ (Rows.OpenSpec.upto Rows.packOneSpec).bare.plain.varTypes Try.prog ++ Try.f17.resultTypes.toList).any (Try.prog.wideKeysFrom ·))) = true := by kernel_rfl
theorem j18 : ((Rows.OpenSpec.upto Rows.packOneSpec).bare.vars.all (Try.prog.varReadable ·)) = true := by kernel_rfl
theorem j19 : (Try.f17.resultTypes.all (fun t => Try.prog.readableRec t && decide (t < Try.prog.types.size))) = true := by kernel_rfl
theorem j20 : ((Rows.packOneUptoRow.ifacesOut == Try.f17.resultTypes.toList.any (Try.prog.ifacesRec ·))) = true := by kernel_rfl
theorem j21 : ((Rows.packOneUptoRow.loopsOut == Try.f17.resultTypes.toList.any (Try.prog.loopsFrom ·))) = true := by kernel_rfl
theorem j22 : ((Rows.packOneUptoRow.plainKeys == Try.prog.plainKeys)) = true := by kernel_rfl
theorem j23 : (Rows.packOneUptoRow.shortTexts.isNone) = true := by kernel_rfl
theorem j26 : ((Rows.packOneUptoRow.lifted == Try.prog.liftsFinal)) = true := by rw [Facts.lifts]; rfl
theorem j27 : ((Try.prog.make == some Rows.packOneUptoRow.make)) = true := by rw [Facts.made]; rfl
theorem j28 : ((Rows.packOneUptoRow.kinds == (if Rows.packOneUptoRow.domain.isEmpty then [] else Try.f17.params.toList.map fun t => match Try.prog.underlying t with | some (.int k) => some k | _ => none))) = true := by kernel_rfl
theorem j29 : ((Rows.packOneUptoRow.pinned == Rows.packOneUptoRow.pinnedBy)) = true := by kernel_rfl
theorem j30 : ((Rows.packOneUptoRow.veiled == (Try.f17.params.toList ++ (Rows.OpenSpec.upto Rows.packOneSpec).bare.plain.varTypes Try.prog ++ Try.f17.resultTypes.toList).any (Try.prog.veiledRec ·))) = true := by kernel_rfl
theorem j31 : (Rows.packOneUptoRow.veiledFits Try.prog Try.f17.params.toList (Try.f17.params.toList ++ (Rows.OpenSpec.upto Rows.packOneSpec).bare.plain.varTypes Try.prog ++ Try.f17.resultTypes.toList)) = true := by kernel_rfl
set_option maxRecDepth 100000 in
theorem closed : joinedFacts Try.prog 17 Try.f17 (Rows.OpenSpec.upto Rows.packOneSpec).bare Rows.packOneUptoRow = true := (Facts.and2 (Facts.and2 (Facts.and2 (Facts.and2 (Facts.and2 (Facts.and2 (Facts.and2 (Facts.and2 (Facts.and2 (Facts.and2 (Facts.and2 (Facts.and2 (Facts.and2 (Facts.and2 (Facts.and2 (Facts.and2 (Facts.and2 (Facts.and2 (Facts.and2 (Facts.and2 (Facts.and2 (Facts.and2 (Facts.and2 (Facts.and2 (Facts.and2 (Facts.and2 (Facts.and2 (Facts.and2 (Facts.and2 (Facts.and2 (Facts.and2 j0 Facts.laidOut) Facts.rowed) j3) j4) j5) Facts.stops) j7) Facts.stopKnobs) j9) j10) j11) j12) j13) j14) j15) j16) j17) j18) j19) j20) j21) j22) j23) Facts.heard) Facts.enter) j26) j27) j28) j29) j30) j31)
theorem own : ownKnob Try.prog.godebug = none := by kernel_rfl
theorem laidOut : laidOutB Try.prog = true := Facts.laidOut
theorem ty5 : Ty Try.prog 5 (fun n : Int => [.val (.int .u8 n)]) (okI .u8) (fun _ => 1) := Ty.int Try.underlying5 (by kernel_rfl)
theorem ty22 : Ty Try.prog 22 (fun l : List Int => [.sl none (l.map (fun n => [.val (.int .u8 n)])) .ro]) (fun l => ∀ a ∈ l, (okI .u8) a) (fun l => (l.map (fun _ => 1)).sum + 1) := Ty.slice Try.underlying22 (by kernel_rfl) ty5
theorem len_ok {H : Type} {α : Type} {d : DataW H} {xs : List α} (h : (xs.map fun _ => 1).sum + 1 ≤ Rows.uptoBulk d) (hb : Rows.uptoBulk d ≤ 1048576) : xs.length ≤ 1048576 := by
  have := len_le_sum (sz := fun _ : α => 1) (fun _ => Nat.le_refl _) xs
  omega
theorem byt_ok {b : List Int} (h : ∀ a ∈ b, okI .u8 a) : Byt b := fun x hx => h x hx
theorem i64_ok {b : List Int} (h : ∀ a ∈ b, okI .i64 a) : ∀ n ∈ b, Pk.I64 n := fun x hx => h x hx
theorem l40_ok {H : Type} {d : DataW H} {xs : List Int} (h : (xs.map fun _ => 1).sum + 1 ≤ Rows.uptoBulk d) (hb : Rows.uptoBulk d ≤ 1048576) : L40 xs := Nat.le_trans (len_ok h hb) (by decide)
set_option maxRecDepth 100000 in
theorem contract (H : Type) (enc : TypeId × Value → H) (W : World) (base : Nat) (args : Array Value) (ds gs : List (DataW H)) (before : List MemPlace)
    (hval : ∀ (j : Nat) t v, Try.f17.params[j]? = some t → args[j]? = some v → Value.okWide Try.prog W .any base t v)
    (hW : DataW.Whole enc Try.prog Try.f17.params.toList Rows.packOneSpec.vars false W args.toList ds gs before) (hk : Rows.uptoSmall H (ds ++ gs) = true) :
    Calls Try.prog 17 args W fun e W' => ∃ v, e = .returned v ∧ Rows.packOneSpec.post enc Try.prog Try.f17 false true false false W args v W' := by
  have hW' := hW
  obtain ⟨p, q, hA0, hV, rfl, hfz, hnd⟩ := hW
  have hA : DataW.TrodAll enc Try.prog W 0 (fun _ => true) true Try.f17.params.toList args.toList ds p := hA0
  rw [Try.params17] at hA hval
  obtain ⟨v0, vs0, d0, ds0, p0, q0, hargs, rfl, rfl, h0, r0⟩ := trodAll_cons hA
  obtain ⟨rfl, rfl, rfl⟩ := trodAll_nil r0
  obtain rfl : args = #[v0] := by cases args; simp_all
  obtain ⟨rfl, rfl⟩ := trodVars_none hV
  clear hA0
  simp only [List.append_nil] at hW' hk
  have hb : Rows.uptoBulkAll [d0] ≤ 1048576 := of_decide_eq_true hk
  simp only [Rows.uptoBulkAll] at hb
  have k0 := h0
  have lt0 : ∀ x ∈ p0, x.block < W.heap.size := by obtain ⟨m, hm⟩ := k0; exact DataW.trod_lt m _ _ _ hm
  obtain ⟨a0, len0, cap0, rfl⟩ := okWide_slice Try.underlying22 (hval 0 22 v0 rfl rfl)
  obtain ⟨f0, hf0⟩ := h0
  obtain ⟨b, ok0, cr0, sz0⟩ := ty22.read hf0
  refine (law_calls (Nu.One_calls b (byt_ok ok0) (l40_ok sz0 (by omega))) (CR.cons (arg_one cr0) CR.nil)).mono fun e W' ⟨he, bel⟩ => ?_
  subst he
  exact ⟨_, rfl, _, _, _, [], _, [], hW', trodAll_mk1 (shut_bool Try.underlying4 _), (trodAll_cons_mk (Below.trod laidOut (by kernel_rfl) (of_decide_eq_true (by kernel_rfl)) k0 bel lt0) trodAll_mk0), rfl, bel.frame _, fun h => by cases h⟩

set_option maxRecDepth 100000 in
theorem lifted (os : Os) (started : os.Started) (H : Type) (enc : TypeId × Value → H) (F : Stop.Interp) :
    ReturnsInHanded {} Try.checked os 17 .any ((Rows.OpenSpec.upto Rows.packOneSpec).pre6 enc Try.prog Try.f17 Rows.packOneUptoRow.domain false) (((Rows.OpenSpec.upto Rows.packOneSpec).at F).post enc Try.prog Try.f17 false true false false) := by
  refine returnsInHanded_of_cond (C := Try.checked) (s := Rows.OpenSpec.upto Rows.packOneSpec) (k := Rows.uptoSmall) rfl own started (by kernel_rfl) Try.func17
    (OpenSpec.witness (enc := enc) (C := Try.checked) (s := Rows.OpenSpec.upto Rows.packOneSpec) (k := Rows.uptoSmall) rfl false ⟨#[], #[.slice none 0 0], []⟩ 8 (by kernel_rfl) (by kernel_rfl) (by kernel_rfl)
      (x := ([.nil], [], [])) (by kernel_rfl) rfl (by kernel_rfl)) ?_
  intro W base args ds gs before hval hW _ hk _
  exact contract H enc W base args ds gs before hval hW hk

theorem over : Rows.packOneUptoRow.holds Try.pinned (Rows.OpenSpec.upto Rows.packOneSpec) :=
  OpenClaim.holds_of_cond 17 Try.f17 rfl rfl rfl rfl rfl rfl rfl ⟨rfl, rfl, rfl, rfl, rfl⟩ rfl rfl rfl rfl rfl (by kernel_rfl) Try.func17 closed
    (of_decide_eq_true (by kernel_rfl)) (by unfold Func.isWrapper; first | (rw [if_pos (by decide +kernel)]; kernel_rfl) | (rw [if_neg (by decide +kernel)]; exact ⟨rfl, rfl⟩))
    (fun os started H enc _ F => lifted os started H enc F)

theorem proved : Rows.PackOneUptoSaid := over
end Go.Proofs.Ytanfmpkjcoolmaa.packOne
namespace Go.Proofs.Ytanfmpkjcoolmaa
/-- The statement, under a short name, for the claim. -/
theorem packOne_upto : Rows.PackOneUptoSaid := packOne.proved
#print axioms packOne_upto
end Go.Proofs.Ytanfmpkjcoolmaa
