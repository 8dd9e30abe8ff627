/- MirrorBundles: true of every input whose bulk is at most 1048576. Conditions: none but that bound. -/
import Derived.Test.YtanfmpkjcoolmaaFacts
import Derived.Test.YtanfmpkjcoolmaaRows
import Derived.Test.YtanfmpkjcoolmaaAbsR
import Derived.Test.YtanfmpkjcoolmaaMbA
import Derived.Test.YtanfmpkjcoolmaaBlA
import Derived.WalkKit
import Derived.ProofKit
import Derived.OpenShut
import Derived.JoinedCond
import Derived.ChangeOld
import Derived.Below
import Derived.Carry
namespace Go.Proofs.Ytanfmpkjcoolmaa.mirrorBundles
open Go.ChangeShapes Go.WideShapes Go.ChangeAt Go.RowKit Go.Proofs.Ytanfmpkjcoolmaa.Rd Go.Abs Go.Proofs.Ytanfmpkjcoolmaa
set_option linter.unusedVariables false

theorem j0 : (Rows.mirrorBundlesUptoRow.wf (OpenSpec.ofChange (Rows.OpenSpec.upto Rows.mirrorBundlesSpec).bare)) = true := by kernel_rfl
theorem j3 : (Try.f15.params.all (Try.prog.readableRec ·)) = true := by kernel_rfl
theorem j4 : (namedTie Try.prog Rows.mirrorBundlesUptoRow.named (Rows.OpenSpec.upto Rows.mirrorBundlesSpec).bare.vars) = true := by kernel_rfl
theorem j5 : ((Rows.mirrorBundlesUptoRow.stops == [])) = true := by kernel_rfl
theorem j7 : ((Rows.mirrorBundlesUptoRow.knobs == [])) = true := by kernel_rfl
theorem j9 : ((Rows.mirrorBundlesUptoRow.inPlace == Try.prog.inPlace 15)) = true := by kernel_rfl
theorem j10 : ((Rows.mirrorBundlesUptoRow.unfollowed == Try.prog.unfollowed 15)) = true := by kernel_rfl
theorem j11 : ((Rows.mirrorBundlesUptoRow.recurses == Try.prog.recurses 15)) = true := by kernel_rfl
theorem j12 : ((Rows.mirrorBundlesUptoRow.named == Try.prog.varsNamed 15)) = true := by kernel_rfl
theorem j13 : ((Rows.mirrorBundlesUptoRow.maps == (Try.f15.params.toList ++ (Rows.OpenSpec.upto Rows.mirrorBundlesSpec).bare.plain.varTypes Try.prog).any (Try.prog.mapsRec ·))) = true := by kernel_rfl
theorem j14 : ((Rows.mirrorBundlesUptoRow.ifaces == (Try.f15.params.toList ++ (Rows.OpenSpec.upto Rows.mirrorBundlesSpec).bare.plain.varTypes Try.prog).any (Try.prog.ifacesRec ·))) = true := by kernel_rfl
theorem j15 : ((Rows.mirrorBundlesUptoRow.mapsOut == Try.prog.mapsAmong Try.f15.resultTypes.toList)) = true := by kernel_rfl
theorem j16 : ((Rows.mirrorBundlesUptoRow.loops == (Try.f15.params.toList ++ (Rows.OpenSpec.upto Rows.mirrorBundlesSpec).bare.plain.varTypes Try.prog).any (Try.prog.loopsFrom ·))) = true := by kernel_rfl
theorem j17 : ((Rows.mirrorBundlesUptoRow.wideKeys == (Try.f15.params.toList ++ (Rows.OpenSpec.upto Rows.mirrorBundlesSpec).bare.plain.varTypes Try.prog ++ Try.f15.resultTypes.toList).any (Try.prog.wideKeysFrom ·))) = true := by kernel_rfl
theorem j18 : ((Rows.OpenSpec.upto Rows.mirrorBundlesSpec).bare.vars.all (Try.prog.varReadable ·)) = true := by kernel_rfl
theorem j19 : (Try.f15.resultTypes.all (fun t => Try.prog.readableRec t && decide (t < Try.prog.types.size))) = true := by kernel_rfl
theorem j20 : ((Rows.mirrorBundlesUptoRow.ifacesOut == Try.f15.resultTypes.toList.any (Try.prog.ifacesRec ·))) = true := by kernel_rfl
theorem j21 : ((Rows.mirrorBundlesUptoRow.loopsOut == Try.f15.resultTypes.toList.any (Try.prog.loopsFrom ·))) = true := by kernel_rfl
theorem j22 : ((Rows.mirrorBundlesUptoRow.plainKeys == Try.prog.plainKeys)) = true := by kernel_rfl
theorem j23 : (Rows.mirrorBundlesUptoRow.shortTexts.isNone) = true := by kernel_rfl
theorem j26 : ((Rows.mirrorBundlesUptoRow.lifted == Try.prog.liftsFinal)) = true := by rw [Facts.lifts]; rfl
theorem j27 : ((Try.prog.make == some Rows.mirrorBundlesUptoRow.make)) = true := by rw [Facts.made]; rfl
theorem j28 : ((Rows.mirrorBundlesUptoRow.kinds == (if Rows.mirrorBundlesUptoRow.domain.isEmpty then [] else Try.f15.params.toList.map fun t => match Try.prog.underlying t with | some (.int k) => some k | _ => none))) = true := by kernel_rfl
theorem j29 : ((Rows.mirrorBundlesUptoRow.pinned == Rows.mirrorBundlesUptoRow.pinnedBy)) = true := by kernel_rfl
theorem j30 : ((Rows.mirrorBundlesUptoRow.veiled == (Try.f15.params.toList ++ (Rows.OpenSpec.upto Rows.mirrorBundlesSpec).bare.plain.varTypes Try.prog ++ Try.f15.resultTypes.toList).any (Try.prog.veiledRec ·))) = true := by kernel_rfl
theorem j31 : (Rows.mirrorBundlesUptoRow.veiledFits Try.prog Try.f15.params.toList (Try.f15.params.toList ++ (Rows.OpenSpec.upto Rows.mirrorBundlesSpec).bare.plain.varTypes Try.prog ++ Try.f15.resultTypes.toList)) = true := by kernel_rfl
set_option maxRecDepth 100000 in
theorem closed : joinedFacts Try.prog 15 Try.f15 (Rows.OpenSpec.upto Rows.mirrorBundlesSpec).bare Rows.mirrorBundlesUptoRow = true := (Facts.and2 (Facts.and2 (Facts.and2 (Facts.and2 (Facts.and2 (Facts.and2 (Facts.and2 (Facts.and2 (Facts.and2 (Facts.and2 (Facts.and2 (Facts.and2 (Facts.and2 (Facts.and2 (Facts.and2 (Facts.and2 (Facts.and2 (Facts.and2 (Facts.and2 (Facts.and2 (Facts.and2 (Facts.and2 (Facts.and2 (Facts.and2 (Facts.and2 (Facts.and2 (Facts.and2 (Facts.and2 (Facts.and2 (Facts.and2 (Facts.and2 j0 Facts.laidOut) Facts.rowed) j3) j4) j5) Facts.stops) j7) Facts.stopKnobs) j9) j10) j11) j12) j13) j14) j15) j16) j17) j18) j19) j20) j21) j22) j23) Facts.heard) Facts.enter) j26) j27) j28) j29) j30) j31)
theorem own : ownKnob Try.prog.godebug = none := by kernel_rfl
theorem laidOut : laidOutB Try.prog = true := Facts.laidOut
theorem ty2 : Ty Try.prog 2 (fun n : Int => [.val (.int .i64 n)]) (okI .i64) (fun _ => 1) := Ty.int Try.underlying2 (by kernel_rfl)
theorem ty24 : Ty Try.prog 24 ((fun p => [.val (.int .i64 p.1), .val (.int .i64 p.2)]) : (Int × Int) → List D) (fun p => okI .i64 p.1 ∧ okI .i64 p.2) (fun _ => 1) :=
  (Ty.structN (P := Try.prog) (t := 24) Try.underlying24 (by kernel_rfl) (Fs.cons (n := 1) ty2 rfl (by kernel_rfl) (Fs.cons (n := 1) ty2 rfl (by kernel_rfl) (Fs.nil 2)))).map (fun p => (⟨p.1, p.2.1⟩ : (Int × Int))) (fun a => (a.1, a.2, ())) (fun _ => rfl) (fun _ => rfl) (fun p h => ⟨h.1, h.2.1⟩) (fun _ => by first | omega | (dsimp only; omega))
theorem ty3 : Ty Try.prog 3 (fun n : Int => [.val (.int .i64 n)]) (okI .i64) (fun _ => 1) := Ty.int Try.underlying3 (by kernel_rfl)
theorem ty56 : Ty Try.prog 56 (ez : En → List D) (En.okE) (fun _ => 1) :=
  (Ty.structN (P := Try.prog) (t := 56) Try.underlying56 (by kernel_rfl) (Fs.cons (n := 1) ty2 rfl (by kernel_rfl) (Fs.cons (n := 1) ty3 rfl (by kernel_rfl) (Fs.cons (n := 2) ty24 rfl (by kernel_rfl) (Fs.nil 4))))).map (fun p => (⟨p.1, p.2.1, p.2.2.1.1, p.2.2.1.2⟩ : En)) (fun a => (a.e, a.r, (a.k, a.v), ())) (fun _ => rfl) (fun _ => rfl) (fun p h => ⟨h.2.2.1.1, h.2.2.1.2⟩) (fun _ => by first | omega | (dsimp only; omega))
theorem ty53 : Ty Try.prog 53 (fun l : List En => [.sl none (l.map ez) .ro]) (fun l => ∀ a ∈ l, (En.okE) a) (fun l => (l.map (fun _ => 1)).sum + 1) := Ty.slice Try.underlying53 (by kernel_rfl) ty56
theorem len_ok {H : Type} {α : Type} {d : DataW H} {xs : List α} (h : (xs.map fun _ => 1).sum + 1 ≤ Rows.uptoBulk d) (hb : Rows.uptoBulk d ≤ 1048576) : xs.length ≤ 1048576 := by
  have := len_le_sum (sz := fun _ : α => 1) (fun _ => Nat.le_refl _) xs
  omega
theorem byt_ok {b : List Int} (h : ∀ a ∈ b, okI .u8 a) : Byt b := fun x hx => h x hx
theorem i64_ok {b : List Int} (h : ∀ a ∈ b, okI .i64 a) : ∀ n ∈ b, Pk.I64 n := fun x hx => h x hx
theorem l40_ok {H : Type} {d : DataW H} {xs : List Int} (h : (xs.map fun _ => 1).sum + 1 ≤ Rows.uptoBulk d) (hb : Rows.uptoBulk d ≤ 1048576) : L40 xs := Nat.le_trans (len_ok h hb) (by decide)
set_option maxRecDepth 100000 in
theorem contract (H : Type) (enc : TypeId × Value → H) (W : World) (base : Nat) (args : Array Value) (ds gs : List (DataW H)) (before : List MemPlace)
    (hval : ∀ (j : Nat) t v, Try.f15.params[j]? = some t → args[j]? = some v → Value.okWide Try.prog W .any base t v)
    (hW : DataW.Whole enc Try.prog Try.f15.params.toList Rows.mirrorBundlesSpec.vars false W args.toList ds gs before) (hk : Rows.uptoSmall H (ds ++ gs) = true) :
    Calls Try.prog 15 args W fun e W' => ∃ v, e = .returned v ∧ Rows.mirrorBundlesSpec.post enc Try.prog Try.f15 false true false false W args v W' := by
  have hW' := hW
  obtain ⟨p, q, hA0, hV, rfl, hfz, hnd⟩ := hW
  have hA : DataW.TrodAll enc Try.prog W 0 (fun _ => true) true Try.f15.params.toList args.toList ds p := hA0
  rw [Try.params15] at hA hval
  obtain ⟨v0, vs0, d0, ds0, p0, q0, hargs, rfl, rfl, h0, r0⟩ := trodAll_cons hA
  obtain ⟨v1, vs1, d1, ds1, p1, q1, rfl, rfl, rfl, h1, r1⟩ := trodAll_cons r0
  obtain ⟨v2, vs2, d2, ds2, p2, q2, rfl, rfl, rfl, h2, r2⟩ := trodAll_cons r1
  obtain ⟨rfl, rfl, rfl⟩ := trodAll_nil r2
  obtain rfl : args = #[v0, v1, v2] := by cases args; simp_all
  obtain ⟨rfl, rfl⟩ := trodVars_none hV
  clear hA0
  simp only [List.append_nil] at hW' hk
  have hb : Rows.uptoBulkAll [d0, d1, d2] ≤ 1048576 := of_decide_eq_true hk
  simp only [Rows.uptoBulkAll] at hb
  have k0 := h0
  have lt0 : ∀ x ∈ p0, x.block < W.heap.size := by obtain ⟨m, hm⟩ := k0; exact DataW.trod_lt m _ _ _ hm
  obtain ⟨a0, rfl⟩ : ∃ n, v0 = .int .i64 n := by obtain ⟨n, e, _⟩ := open_int Try.underlying3 (hval 0 3 v0 rfl rfl) h0; exact ⟨n, e⟩
  obtain ⟨f0, hf0⟩ := h0
  obtain ⟨p, ok0, cr0, sz0⟩ := ty3.read hf0
  have k1 := h1
  have lt1 : ∀ x ∈ p1, x.block < W.heap.size := by obtain ⟨m, hm⟩ := k1; exact DataW.trod_lt m _ _ _ hm
  obtain ⟨a1, rfl⟩ : ∃ n, v1 = .int .i64 n := by obtain ⟨n, e, _⟩ := open_int Try.underlying2 (hval 1 2 v1 rfl rfl) h1; exact ⟨n, e⟩
  obtain ⟨f1, hf1⟩ := h1
  obtain ⟨q, ok1, cr1, sz1⟩ := ty2.read hf1
  have k2 := h2
  have lt2 : ∀ x ∈ p2, x.block < W.heap.size := by obtain ⟨m, hm⟩ := k2; exact DataW.trod_lt m _ _ _ hm
  obtain ⟨a2, len2, cap2, rfl⟩ := okWide_slice Try.underlying53 (hval 2 53 v2 rfl rfl)
  obtain ⟨f2, hf2⟩ := h2
  obtain ⟨l, ok2, cr2, sz2⟩ := ty53.read hf2
  refine (law_calls (Bl.Bundles_calls p q l (len_ok sz2 (by omega))) (CR.cons (arg_one cr0) (CR.cons (arg_one cr1) (CR.cons (arg_one cr2) CR.nil)))).mono fun e W' ⟨he, bel⟩ => ?_
  subst he
  exact ⟨_, rfl, _, _, _, [], _, [], hW', trodAll_mk1 (shut_bool Try.underlying4 _), (trodAll_cons_mk (Below.trod laidOut (by kernel_rfl) (of_decide_eq_true (by kernel_rfl)) k0 bel lt0) (trodAll_cons_mk (Below.trod laidOut (by kernel_rfl) (of_decide_eq_true (by kernel_rfl)) k1 bel lt1) (trodAll_cons_mk (Below.trod laidOut (by kernel_rfl) (of_decide_eq_true (by kernel_rfl)) k2 bel lt2) trodAll_mk0))), rfl, bel.frame _, fun h => by cases h⟩

set_option maxRecDepth 100000 in
theorem lifted (os : Os) (started : os.Started) (H : Type) (enc : TypeId × Value → H) (F : Stop.Interp) :
    ReturnsInHanded {} Try.checked os 15 .any ((Rows.OpenSpec.upto Rows.mirrorBundlesSpec).pre6 enc Try.prog Try.f15 Rows.mirrorBundlesUptoRow.domain false) (((Rows.OpenSpec.upto Rows.mirrorBundlesSpec).at F).post enc Try.prog Try.f15 false true false false) := by
  refine returnsInHanded_of_cond (C := Try.checked) (s := Rows.OpenSpec.upto Rows.mirrorBundlesSpec) (k := Rows.uptoSmall) rfl own started (by kernel_rfl) Try.func15
    (OpenSpec.witness (enc := enc) (C := Try.checked) (s := Rows.OpenSpec.upto Rows.mirrorBundlesSpec) (k := Rows.uptoSmall) rfl false ⟨#[], #[.int .i64 0, .int .i64 0, .slice none 0 0], []⟩ 8 (by kernel_rfl) (by kernel_rfl) (by kernel_rfl)
      (x := ([.lit (.int .i64 0), .lit (.int .i64 0), .nil], [], [])) (by kernel_rfl) rfl (by kernel_rfl)) ?_
  intro W base args ds gs before hval hW _ hk _
  exact contract H enc W base args ds gs before hval hW hk

theorem over : Rows.mirrorBundlesUptoRow.holds Try.pinned (Rows.OpenSpec.upto Rows.mirrorBundlesSpec) :=
  OpenClaim.holds_of_cond 15 Try.f15 rfl rfl rfl rfl rfl rfl rfl ⟨rfl, rfl, rfl, rfl, rfl⟩ rfl rfl rfl rfl rfl (by kernel_rfl) Try.func15 closed
    (of_decide_eq_true (by kernel_rfl)) (by unfold Func.isWrapper; first | (rw [if_pos (by decide +kernel)]; kernel_rfl) | (rw [if_neg (by decide +kernel)]; exact ⟨rfl, rfl⟩))
    (fun os started H enc _ F => lifted os started H enc F)

theorem proved : Rows.MirrorBundlesUptoSaid := over
end Go.Proofs.Ytanfmpkjcoolmaa.mirrorBundles
namespace Go.Proofs.Ytanfmpkjcoolmaa
/-- The statement, under a short name, for the claim. -/
theorem mirrorBundles_upto : Rows.MirrorBundlesUptoSaid := mirrorBundles.proved
#print axioms mirrorBundles_upto
end Go.Proofs.Ytanfmpkjcoolmaa
