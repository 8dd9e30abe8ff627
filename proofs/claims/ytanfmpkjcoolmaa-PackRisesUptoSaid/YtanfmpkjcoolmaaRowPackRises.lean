/- PackRises: true of every input whose bulk is at most 1048576. Conditions: none but that bound. -/
import Derived.Test.YtanfmpkjcoolmaaFacts
import Derived.Test.YtanfmpkjcoolmaaRows
import Derived.Test.YtanfmpkjcoolmaaAbsR
import Derived.Test.YtanfmpkjcoolmaaRiA
import Derived.WalkKit
import Derived.ProofKit
import Derived.OpenShut
import Derived.JoinedCond
import Derived.ChangeOld
import Derived.Below
import Derived.Carry
namespace Go.Proofs.Ytanfmpkjcoolmaa.packRises
open Go.ChangeShapes Go.WideShapes Go.ChangeAt Go.RowKit Go.Proofs.Ytanfmpkjcoolmaa.Rd Go.Abs Go.Proofs.Ytanfmpkjcoolmaa
set_option linter.unusedVariables false

theorem j0 : (Rows.packRisesUptoRow.wf (OpenSpec.ofChange (Rows.OpenSpec.upto Rows.packRisesSpec).bare)) = true := by kernel_rfl
theorem j3 : (Try.f11.params.all (Try.prog.readableRec ·)) = true := by kernel_rfl
theorem j4 : (namedTie Try.prog Rows.packRisesUptoRow.named (Rows.OpenSpec.upto Rows.packRisesSpec).bare.vars) = true := by kernel_rfl
theorem j5 : ((Rows.packRisesUptoRow.stops == [])) = true := by kernel_rfl
theorem j7 : ((Rows.packRisesUptoRow.knobs == [])) = true := by kernel_rfl
theorem j9 : ((Rows.packRisesUptoRow.inPlace == Try.prog.inPlace 11)) = true := by kernel_rfl
theorem j10 : ((Rows.packRisesUptoRow.unfollowed == Try.prog.unfollowed 11)) = true := by kernel_rfl
theorem j11 : ((Rows.packRisesUptoRow.recurses == Try.prog.recurses 11)) = true := by kernel_rfl
theorem j12 : ((Rows.packRisesUptoRow.named == Try.prog.varsNamed 11)) = true := by kernel_rfl
theorem j13 : ((Rows.packRisesUptoRow.maps == (Try.f11.params.toList ++ (Rows.OpenSpec.upto Rows.packRisesSpec).bare.plain.varTypes Try.prog).any (Try.prog.mapsRec ·))) = true := by kernel_rfl
theorem j14 : ((Rows.packRisesUptoRow.ifaces == (Try.f11.params.toList ++ (Rows.OpenSpec.upto Rows.packRisesSpec).bare.plain.varTypes Try.prog).any (Try.prog.ifacesRec ·))) = true := by kernel_rfl
theorem j15 : ((Rows.packRisesUptoRow.mapsOut == Try.prog.mapsAmong Try.f11.resultTypes.toList)) = true := by kernel_rfl
theorem j16 : ((Rows.packRisesUptoRow.loops == (Try.f11.params.toList ++ (Rows.OpenSpec.upto Rows.packRisesSpec).bare.plain.varTypes Try.prog).any (Try.prog.loopsFrom ·))) = true := by kernel_rfl
theorem j17 : ((Rows.packRisesUptoRow.wideKeys == (Try.f11.params.toList ++ (Rows.OpenSpec.upto Rows.packRisesSpec).bare.plain.varTypes Try.prog ++ Try.f11.resultTypes.toList).any (Try.prog.wideKeysFrom ·))) = true := by kernel_rfl
theorem j18 : ((Rows.OpenSpec.upto Rows.packRisesSpec).bare.vars.all (Try.prog.varReadable ·)) = true := by kernel_rfl
theorem j19 : (Try.f11.resultTypes.all (fun t => Try.prog.readableRec t && decide (t < Try.prog.types.size))) = true := by kernel_rfl
theorem j20 : ((Rows.packRisesUptoRow.ifacesOut == Try.f11.resultTypes.toList.any (Try.prog.ifacesRec ·))) = true := by kernel_rfl
theorem j21 : ((Rows.packRisesUptoRow.loopsOut == Try.f11.resultTypes.toList.any (Try.prog.loopsFrom ·))) = true := by kernel_rfl
theorem j22 : ((Rows.packRisesUptoRow.plainKeys == Try.prog.plainKeys)) = true := by kernel_rfl
theorem j23 : (Rows.packRisesUptoRow.shortTexts.isNone) = true := by kernel_rfl
theorem j26 : ((Rows.packRisesUptoRow.lifted == Try.prog.liftsFinal)) = true := by rw [Facts.lifts]; rfl
theorem j27 : ((Try.prog.make == some Rows.packRisesUptoRow.make)) = true := by rw [Facts.made]; rfl
theorem j28 : ((Rows.packRisesUptoRow.kinds == (if Rows.packRisesUptoRow.domain.isEmpty then [] else Try.f11.params.toList.map fun t => match Try.prog.underlying t with | some (.int k) => some k | _ => none))) = true := by kernel_rfl
theorem j29 : ((Rows.packRisesUptoRow.pinned == Rows.packRisesUptoRow.pinnedBy)) = true := by kernel_rfl
theorem j30 : ((Rows.packRisesUptoRow.veiled == (Try.f11.params.toList ++ (Rows.OpenSpec.upto Rows.packRisesSpec).bare.plain.varTypes Try.prog ++ Try.f11.resultTypes.toList).any (Try.prog.veiledRec ·))) = true := by kernel_rfl
theorem j31 : (Rows.packRisesUptoRow.veiledFits Try.prog Try.f11.params.toList (Try.f11.params.toList ++ (Rows.OpenSpec.upto Rows.packRisesSpec).bare.plain.varTypes Try.prog ++ Try.f11.resultTypes.toList)) = true := by kernel_rfl
set_option maxRecDepth 100000 in
theorem closed : joinedFacts Try.prog 11 Try.f11 (Rows.OpenSpec.upto Rows.packRisesSpec).bare Rows.packRisesUptoRow = true := (Facts.and2 (Facts.and2 (Facts.and2 (Facts.and2 (Facts.and2 (Facts.and2 (Facts.and2 (Facts.and2 (Facts.and2 (Facts.and2 (Facts.and2 (Facts.and2 (Facts.and2 (Facts.and2 (Facts.and2 (Facts.and2 (Facts.and2 (Facts.and2 (Facts.and2 (Facts.and2 (Facts.and2 (Facts.and2 (Facts.and2 (Facts.and2 (Facts.and2 (Facts.and2 (Facts.and2 (Facts.and2 (Facts.and2 (Facts.and2 (Facts.and2 j0 Facts.laidOut) Facts.rowed) j3) j4) j5) Facts.stops) j7) Facts.stopKnobs) j9) j10) j11) j12) j13) j14) j15) j16) j17) j18) j19) j20) j21) j22) j23) Facts.heard) Facts.enter) j26) j27) j28) j29) j30) j31)
theorem own : ownKnob Try.prog.godebug = none := by kernel_rfl
theorem laidOut : laidOutB Try.prog = true := Facts.laidOut
theorem ty2 : Ty Try.prog 2 (fun n : Int => [.val (.int .i64 n)]) (okI .i64) (fun _ => 1) := Ty.int Try.underlying2 (by kernel_rfl)
theorem len_ok {H : Type} {α : Type} {d : DataW H} {xs : List α} (h : (xs.map fun _ => 1).sum + 1 ≤ Rows.uptoBulk d) (hb : Rows.uptoBulk d ≤ 1048576) : xs.length ≤ 1048576 := by
  have := len_le_sum (sz := fun _ : α => 1) (fun _ => Nat.le_refl _) xs
  omega
theorem byt_ok {b : List Int} (h : ∀ a ∈ b, okI .u8 a) : Byt b := fun x hx => h x hx
theorem i64_ok {b : List Int} (h : ∀ a ∈ b, okI .i64 a) : ∀ n ∈ b, Pk.I64 n := fun x hx => h x hx
theorem l40_ok {H : Type} {d : DataW H} {xs : List Int} (h : (xs.map fun _ => 1).sum + 1 ≤ Rows.uptoBulk d) (hb : Rows.uptoBulk d ≤ 1048576) : L40 xs := Nat.le_trans (len_ok h hb) (by decide)
set_option maxRecDepth 100000 in
theorem contract (H : Type) (enc : TypeId × Value → H) (W : World) (base : Nat) (args : Array Value) (ds gs : List (DataW H)) (before : List MemPlace)
    (hval : ∀ (j : Nat) t v, Try.f11.params[j]? = some t → args[j]? = some v → Value.okWide Try.prog W .any base t v)
    (hW : DataW.Whole enc Try.prog Try.f11.params.toList Rows.packRisesSpec.vars false W args.toList ds gs before) (hk : Rows.uptoSmall H (ds ++ gs) = true) :
    Calls Try.prog 11 args W fun e W' => ∃ v, e = .returned v ∧ Rows.packRisesSpec.post enc Try.prog Try.f11 false true false false W args v W' := by
  have hW' := hW
  obtain ⟨p, q, hA0, hV, rfl, hfz, hnd⟩ := hW
  have hA : DataW.TrodAll enc Try.prog W 0 (fun _ => true) true Try.f11.params.toList args.toList ds p := hA0
  rw [Try.params11] at hA hval
  obtain ⟨v0, vs0, d0, ds0, p0, q0, hargs, rfl, rfl, h0, r0⟩ := trodAll_cons hA
  obtain ⟨v1, vs1, d1, ds1, p1, q1, rfl, rfl, rfl, h1, r1⟩ := trodAll_cons r0
  obtain ⟨rfl, rfl, rfl⟩ := trodAll_nil r1
  obtain rfl : args = #[v0, v1] := by cases args; simp_all
  obtain ⟨rfl, rfl⟩ := trodVars_none hV
  clear hA0
  simp only [List.append_nil] at hW' hk
  have hb : Rows.uptoBulkAll [d0, d1] ≤ 1048576 := of_decide_eq_true hk
  simp only [Rows.uptoBulkAll] at hb
  have k0 := h0
  have lt0 : ∀ x ∈ p0, x.block < W.heap.size := by obtain ⟨m, hm⟩ := k0; exact DataW.trod_lt m _ _ _ hm
  obtain ⟨a0, rfl⟩ : ∃ n, v0 = .int .i64 n := by obtain ⟨n, e, _⟩ := open_int Try.underlying2 (hval 0 2 v0 rfl rfl) h0; exact ⟨n, e⟩
  obtain ⟨f0, hf0⟩ := h0
  obtain ⟨a, ok0, cr0, sz0⟩ := ty2.read hf0
  have k1 := h1
  have lt1 : ∀ x ∈ p1, x.block < W.heap.size := by obtain ⟨m, hm⟩ := k1; exact DataW.trod_lt m _ _ _ hm
  obtain ⟨a1, rfl⟩ : ∃ n, v1 = .int .i64 n := by obtain ⟨n, e, _⟩ := open_int Try.underlying2 (hval 1 2 v1 rfl rfl) h1; exact ⟨n, e⟩
  obtain ⟨f1, hf1⟩ := h1
  obtain ⟨b, ok1, cr1, sz1⟩ := ty2.read hf1
  refine (law_calls (Ri.Rises_calls a b ok0 ok1) (CR.cons (arg_one cr0) (CR.cons (arg_one cr1) CR.nil))).mono fun e W' ⟨he, bel⟩ => ?_
  subst he
  exact ⟨_, rfl, _, _, _, [], _, [], hW', trodAll_mk1 (shut_bool Try.underlying4 _), (trodAll_cons_mk (Below.trod laidOut (by kernel_rfl) (of_decide_eq_true (by kernel_rfl)) k0 bel lt0) (trodAll_cons_mk (Below.trod laidOut (by kernel_rfl) (of_decide_eq_true (by kernel_rfl)) k1 bel lt1) trodAll_mk0)), rfl, bel.frame _, fun h => by cases h⟩

set_option maxRecDepth 100000 in
theorem lifted (os : Os) (started : os.Started) (H : Type) (enc : TypeId × Value → H) (F : Stop.Interp) :
    ReturnsInHanded {} Try.checked os 11 .any ((Rows.OpenSpec.upto Rows.packRisesSpec).pre6 enc Try.prog Try.f11 Rows.packRisesUptoRow.domain false) (((Rows.OpenSpec.upto Rows.packRisesSpec).at F).post enc Try.prog Try.f11 false true false false) := by
  refine returnsInHanded_of_cond (C := Try.checked) (s := Rows.OpenSpec.upto Rows.packRisesSpec) (k := Rows.uptoSmall) rfl own started (by kernel_rfl) Try.func11
    (OpenSpec.witness (enc := enc) (C := Try.checked) (s := Rows.OpenSpec.upto Rows.packRisesSpec) (k := Rows.uptoSmall) rfl false ⟨#[], #[.int .i64 0, .int .i64 0], []⟩ 8 (by kernel_rfl) (by kernel_rfl) (by kernel_rfl)
      (x := ([.lit (.int .i64 0), .lit (.int .i64 0)], [], [])) (by kernel_rfl) rfl (by kernel_rfl)) ?_
  intro W base args ds gs before hval hW _ hk _
  exact contract H enc W base args ds gs before hval hW hk

theorem over : Rows.packRisesUptoRow.holds Try.pinned (Rows.OpenSpec.upto Rows.packRisesSpec) :=
  OpenClaim.holds_of_cond 11 Try.f11 rfl rfl rfl rfl rfl rfl rfl ⟨rfl, rfl, rfl, rfl, rfl⟩ rfl rfl rfl rfl rfl (by kernel_rfl) Try.func11 closed
    (of_decide_eq_true (by kernel_rfl)) (by unfold Func.isWrapper; first | (rw [if_pos (by decide +kernel)]; kernel_rfl) | (rw [if_neg (by decide +kernel)]; exact ⟨rfl, rfl⟩))
    (fun os started H enc _ F => lifted os started H enc F)

theorem proved : Rows.PackRisesUptoSaid := over
end Go.Proofs.Ytanfmpkjcoolmaa.packRises
namespace Go.Proofs.Ytanfmpkjcoolmaa
/-- The statement, under a short name, for the claim. -/
theorem packRises_upto : Rows.PackRisesUptoSaid := packRises.proved
#print axioms packRises_upto
end Go.Proofs.Ytanfmpkjcoolmaa
