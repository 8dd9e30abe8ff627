/- MirrorOrder: true of every input whose bulk is at most 1048576. Conditions: none but that bound. -/
import Derived.Test.YtanfmpkjcoolmaaFacts
import Derived.Test.YtanfmpkjcoolmaaRows
import Derived.Test.YtanfmpkjcoolmaaAbsR
import Derived.Test.YtanfmpkjcoolmaaMbA
import Derived.Test.YtanfmpkjcoolmaaOdA
import Derived.WalkKit
import Derived.ProofKit
import Derived.OpenShut
import Derived.JoinedCond
import Derived.ChangeOld
import Derived.Below
import Derived.Carry
namespace Go.Proofs.Ytanfmpkjcoolmaa.mirrorOrder
open Go.ChangeShapes Go.WideShapes Go.ChangeAt Go.RowKit Go.Proofs.Ytanfmpkjcoolmaa.Rd Go.Abs Go.Proofs.Ytanfmpkjcoolmaa
set_option linter.unusedVariables false

theorem j0 : (Rows.mirrorOrderUptoRow.wf (OpenSpec.ofChange (Rows.OpenSpec.upto Rows.mirrorOrderSpec).bare)) = true := by kernel_rfl
theorem j3 : (Try.f16.params.all (Try.prog.readableRec ·)) = true := by kernel_rfl
theorem j4 : (namedTie Try.prog Rows.mirrorOrderUptoRow.named (Rows.OpenSpec.upto Rows.mirrorOrderSpec).bare.vars) = true := by kernel_rfl
theorem j5 : ((Rows.mirrorOrderUptoRow.stops == [])) = true := by kernel_rfl
theorem j7 : ((Rows.mirrorOrderUptoRow.knobs == [])) = true := by kernel_rfl
theorem j9 : ((Rows.mirrorOrderUptoRow.inPlace == Try.prog.inPlace 16)) = true := by kernel_rfl
theorem j10 : ((Rows.mirrorOrderUptoRow.unfollowed == Try.prog.unfollowed 16)) = true := by kernel_rfl
theorem j11 : ((Rows.mirrorOrderUptoRow.recurses == Try.prog.recurses 16)) = true := by kernel_rfl
theorem j12 : ((Rows.mirrorOrderUptoRow.named == Try.prog.varsNamed 16)) = true := by kernel_rfl
theorem j13 : ((Rows.mirrorOrderUptoRow.maps == (Try.f16.params.toList ++ (Rows.OpenSpec.upto Rows.mirrorOrderSpec).bare.plain.varTypes Try.prog).any (Try.prog.mapsRec ·))) = true := by kernel_rfl
theorem j14 : ((Rows.mirrorOrderUptoRow.ifaces == (Try.f16.params.toList ++ (Rows.OpenSpec.upto Rows.mirrorOrderSpec).bare.plain.varTypes Try.prog).any (Try.prog.ifacesRec ·))) = true := by kernel_rfl
theorem j15 : ((Rows.mirrorOrderUptoRow.mapsOut == Try.prog.mapsAmong Try.f16.resultTypes.toList)) = true := by kernel_rfl
theorem j16 : ((Rows.mirrorOrderUptoRow.loops == (Try.f16.params.toList ++ (Rows.OpenSpec.upto Rows.mirrorOrderSpec).bare.plain.varTypes Try.prog).any (Try.prog.loopsFrom ·))) = true := by kernel_rfl
theorem j17 : ((Rows.mirrorOrderUptoRow.wideKeys == (Try.f16.params.toList ++ (Rows.OpenSpec.upto Rows.mirrorOrderSpec).bare.plain.varTypes Try.prog ++ Try.f16.resultTypes.toList).any (Try.prog.wideKeysFrom ·))) = true := by kernel_rfl
theorem j18 : ((Rows.OpenSpec.upto Rows.mirrorOrderSpec).bare.vars.all (Try.prog.varReadable ·)) = true := by kernel_rfl
theorem j19 : (Try.f16.resultTypes.all (fun t => Try.prog.readableRec t && decide (t < Try.prog.types.size))) = true := by kernel_rfl
theorem j20 : ((Rows.mirrorOrderUptoRow.ifacesOut == Try.f16.resultTypes.toList.any (Try.prog.ifacesRec ·))) = true := by kernel_rfl
theorem j21 : ((Rows.mirrorOrderUptoRow.loopsOut == Try.f16.resultTypes.toList.any (Try.prog.loopsFrom ·))) = true := by kernel_rfl
theorem j22 : ((Rows.mirrorOrderUptoRow.plainKeys == Try.prog.plainKeys)) = true := by kernel_rfl
theorem j23 : (Rows.mirrorOrderUptoRow.shortTexts.isNone) = true := by kernel_rfl
theorem j26 : ((Rows.mirrorOrderUptoRow.lifted == Try.prog.liftsFinal)) = true := by rw [Facts.lifts]; rfl
theorem j27 : ((Try.prog.make == some Rows.mirrorOrderUptoRow.make)) = true := by rw [Facts.made]; rfl
theorem j28 : ((Rows.mirrorOrderUptoRow.kinds == (if Rows.mirrorOrderUptoRow.domain.isEmpty then [] else Try.f16.params.toList.map fun t => match Try.prog.underlying t with | some (.int k) => some k | _ => none))) = true := by kernel_rfl
theorem j29 : ((Rows.mirrorOrderUptoRow.pinned == Rows.mirrorOrderUptoRow.pinnedBy)) = true := by kernel_rfl
theorem j30 : ((Rows.mirrorOrderUptoRow.veiled == (Try.f16.params.toList ++ (Rows.OpenSpec.upto Rows.mirrorOrderSpec).bare.plain.varTypes Try.prog ++ Try.f16.resultTypes.toList).any (Try.prog.veiledRec ·))) = true := by kernel_rfl
theorem j31 : (Rows.mirrorOrderUptoRow.veiledFits Try.prog Try.f16.params.toList (Try.f16.params.toList ++ (Rows.OpenSpec.upto Rows.mirrorOrderSpec).bare.plain.varTypes Try.prog ++ Try.f16.resultTypes.toList)) = true := by kernel_rfl
set_option maxRecDepth 100000 in
theorem closed : joinedFacts Try.prog 16 Try.f16 (Rows.OpenSpec.upto Rows.mirrorOrderSpec).bare Rows.mirrorOrderUptoRow = true := (Facts.and2 (Facts.and2 (Facts.and2 (Facts.and2 (Facts.and2 (Facts.and2 (Facts.and2 (Facts.and2 (Facts.and2 (Facts.and2 (Facts.and2 (Facts.and2 (Facts.and2 (Facts.and2 (Facts.and2 (Facts.and2 (Facts.and2 (Facts.and2 (Facts.and2 (Facts.and2 (Facts.and2 (Facts.and2 (Facts.and2 (Facts.and2 (Facts.and2 (Facts.and2 (Facts.and2 (Facts.and2 (Facts.and2 (Facts.and2 (Facts.and2 j0 Facts.laidOut) Facts.rowed) j3) j4) j5) Facts.stops) j7) Facts.stopKnobs) j9) j10) j11) j12) j13) j14) j15) j16) j17) j18) j19) j20) j21) j22) j23) Facts.heard) Facts.enter) j26) j27) j28) j29) j30) j31)
theorem own : ownKnob Try.prog.godebug = none := by kernel_rfl
theorem laidOut : laidOutB Try.prog = true := Facts.laidOut
theorem ty2 : Ty Try.prog 2 (fun n : Int => [.val (.int .i64 n)]) (okI .i64) (fun _ => 1) := Ty.int Try.underlying2 (by kernel_rfl)
theorem ty24 : Ty Try.prog 24 ((fun p => [.val (.int .i64 p.1), .val (.int .i64 p.2)]) : (Int × Int) → List D) (fun p => okI .i64 p.1 ∧ okI .i64 p.2) (fun _ => 1) :=
  (Ty.structN (P := Try.prog) (t := 24) Try.underlying24 (by kernel_rfl) (Fs.cons (n := 1) ty2 rfl (by kernel_rfl) (Fs.cons (n := 1) ty2 rfl (by kernel_rfl) (Fs.nil 2)))).map (fun p => (⟨p.1, p.2.1⟩ : (Int × Int))) (fun a => (a.1, a.2, ())) (fun _ => rfl) (fun _ => rfl) (fun p h => ⟨h.1, h.2.1⟩) (fun _ => by first | omega | (dsimp only; omega))
theorem ty3 : Ty Try.prog 3 (fun n : Int => [.val (.int .i64 n)]) (okI .i64) (fun _ => 1) := Ty.int Try.underlying3 (by kernel_rfl)
theorem ty56 : Ty Try.prog 56 (ez : En → List D) (En.okE) (fun _ => 1) :=
  (Ty.structN (P := Try.prog) (t := 56) Try.underlying56 (by kernel_rfl) (Fs.cons (n := 1) ty2 rfl (by kernel_rfl) (Fs.cons (n := 1) ty3 rfl (by kernel_rfl) (Fs.cons (n := 2) ty24 rfl (by kernel_rfl) (Fs.nil 4))))).map (fun p => (⟨p.1, p.2.1, p.2.2.1.1, p.2.2.1.2⟩ : En)) (fun a => (a.e, a.r, (a.k, a.v), ())) (fun _ => rfl) (fun _ => rfl) (fun p h => ⟨h.2.2.1.1, h.2.2.1.2⟩) (fun _ => by first | omega | (dsimp only; omega))
theorem ty53 : Ty Try.prog 53 (fun l : List En => [.sl none (l.map ez) .ro]) (fun l => ∀ a ∈ l, (En.okE) a) (fun l => (l.map (fun _ => 1)).sum + 1) := Ty.slice Try.underlying53 (by kernel_rfl) ty56
theorem ty120 : Ty Try.prog 120 (fun n : Int => [.val (.int .u16 n)]) (okI .u16) (fun _ => 1) := Ty.int Try.underlying120 (by kernel_rfl)
theorem ty119 : Ty Try.prog 119 (fun l : List Int => [.sl none (l.map (fun n => [.val (.int .u16 n)])) .ro]) (fun l => ∀ a ∈ l, (okI .u16) a) (fun l => (l.map (fun _ => 1)).sum + 1) := Ty.slice Try.underlying119 (by kernel_rfl) ty120
theorem len_ok {H : Type} {α : Type} {d : DataW H} {xs : List α} (h : (xs.map fun _ => 1).sum + 1 ≤ Rows.uptoBulk d) (hb : Rows.uptoBulk d ≤ 1048576) : xs.length ≤ 1048576 := by
  have := len_le_sum (sz := fun _ : α => 1) (fun _ => Nat.le_refl _) xs
  omega
theorem byt_ok {b : List Int} (h : ∀ a ∈ b, okI .u8 a) : Byt b := fun x hx => h x hx
theorem i64_ok {b : List Int} (h : ∀ a ∈ b, okI .i64 a) : ∀ n ∈ b, Pk.I64 n := fun x hx => h x hx
theorem l40_ok {H : Type} {d : DataW H} {xs : List Int} (h : (xs.map fun _ => 1).sum + 1 ≤ Rows.uptoBulk d) (hb : Rows.uptoBulk d ≤ 1048576) : L40 xs := Nat.le_trans (len_ok h hb) (by decide)
set_option maxRecDepth 100000 in
theorem contract (H : Type) (enc : TypeId × Value → H) (W : World) (base : Nat) (args : Array Value) (ds gs : List (DataW H)) (before : List MemPlace)
    (hval : ∀ (j : Nat) t v, Try.f16.params[j]? = some t → args[j]? = some v → Value.okWide Try.prog W .any base t v)
    (hW : DataW.Whole enc Try.prog Try.f16.params.toList Rows.mirrorOrderSpec.vars false W args.toList ds gs before) (hk : Rows.uptoSmall H (ds ++ gs) = true) :
    Calls Try.prog 16 args W fun e W' => ∃ v, e = .returned v ∧ Rows.mirrorOrderSpec.post enc Try.prog Try.f16 false true false false W args v W' := by
  have hW' := hW
  obtain ⟨p, q, hA0, hV, rfl, hfz, hnd⟩ := hW
  have hA : DataW.TrodAll enc Try.prog W 0 (fun _ => true) true Try.f16.params.toList args.toList ds p := hA0
  rw [Try.params16] at hA hval
  obtain ⟨v0, vs0, d0, ds0, p0, q0, hargs, rfl, rfl, h0, r0⟩ := trodAll_cons hA
  obtain ⟨v1, vs1, d1, ds1, p1, q1, rfl, rfl, rfl, h1, r1⟩ := trodAll_cons r0
  obtain ⟨rfl, rfl, rfl⟩ := trodAll_nil r1
  obtain rfl : args = #[v0, v1] := by cases args; simp_all
  obtain ⟨rfl, rfl⟩ := trodVars_none hV
  clear hA0
  simp only [List.append_nil] at hW' hk
  have hb : Rows.uptoBulkAll [d0, d1] ≤ 1048576 := of_decide_eq_true hk
  simp only [Rows.uptoBulkAll] at hb
  have k0 := h0
  have lt0 : ∀ x ∈ p0, x.block < W.heap.size := by obtain ⟨m, hm⟩ := k0; exact DataW.trod_lt m _ _ _ hm
  obtain ⟨a0, len0, cap0, rfl⟩ := okWide_slice Try.underlying53 (hval 0 53 v0 rfl rfl)
  obtain ⟨f0, hf0⟩ := h0
  obtain ⟨l, ok0, cr0, sz0⟩ := ty53.read hf0
  have k1 := h1
  have lt1 : ∀ x ∈ p1, x.block < W.heap.size := by obtain ⟨m, hm⟩ := k1; exact DataW.trod_lt m _ _ _ hm
  obtain ⟨a1, len1, cap1, rfl⟩ := okWide_slice Try.underlying119 (hval 1 119 v1 rfl rfl)
  obtain ⟨f1, hf1⟩ := h1
  obtain ⟨ns, ok1, cr1, sz1⟩ := ty119.read hf1
  refine (law_calls (Od.Order_calls l ns (len_ok sz0 (by omega)) (len_ok sz1 (by omega)) ok1) (CR.cons (arg_one cr0) (CR.cons (arg_one cr1) CR.nil))).mono fun e W' ⟨he, bel⟩ => ?_
  subst he
  exact ⟨_, rfl, _, _, _, [], _, [], hW', trodAll_mk1 (shut_bool Try.underlying4 _), (trodAll_cons_mk (Below.trod laidOut (by kernel_rfl) (of_decide_eq_true (by kernel_rfl)) k0 bel lt0) (trodAll_cons_mk (Below.trod laidOut (by kernel_rfl) (of_decide_eq_true (by kernel_rfl)) k1 bel lt1) trodAll_mk0)), rfl, bel.frame _, fun h => by cases h⟩

set_option maxRecDepth 100000 in
theorem lifted (os : Os) (started : os.Started) (H : Type) (enc : TypeId × Value → H) (F : Stop.Interp) :
    ReturnsInHanded {} Try.checked os 16 .any ((Rows.OpenSpec.upto Rows.mirrorOrderSpec).pre6 enc Try.prog Try.f16 Rows.mirrorOrderUptoRow.domain false) (((Rows.OpenSpec.upto Rows.mirrorOrderSpec).at F).post enc Try.prog Try.f16 false true false false) := by
  refine returnsInHanded_of_cond (C := Try.checked) (s := Rows.OpenSpec.upto Rows.mirrorOrderSpec) (k := Rows.uptoSmall) rfl own started (by kernel_rfl) Try.func16
    (OpenSpec.witness (enc := enc) (C := Try.checked) (s := Rows.OpenSpec.upto Rows.mirrorOrderSpec) (k := Rows.uptoSmall) rfl false ⟨#[], #[.slice none 0 0, .slice none 0 0], []⟩ 8 (by kernel_rfl) (by kernel_rfl) (by kernel_rfl)
      (x := ([.nil, .nil], [], [])) (by kernel_rfl) rfl (by kernel_rfl)) ?_
  intro W base args ds gs before hval hW _ hk _
  exact contract H enc W base args ds gs before hval hW hk

theorem over : Rows.mirrorOrderUptoRow.holds Try.pinned (Rows.OpenSpec.upto Rows.mirrorOrderSpec) :=
  OpenClaim.holds_of_cond 16 Try.f16 rfl rfl rfl rfl rfl rfl rfl ⟨rfl, rfl, rfl, rfl, rfl⟩ rfl rfl rfl rfl rfl (by kernel_rfl) Try.func16 closed
    (of_decide_eq_true (by kernel_rfl)) (by unfold Func.isWrapper; first | (rw [if_pos (by decide +kernel)]; kernel_rfl) | (rw [if_neg (by decide +kernel)]; exact ⟨rfl, rfl⟩))
    (fun os started H enc _ F => lifted os started H enc F)

theorem proved : Rows.MirrorOrderUptoSaid := over
end Go.Proofs.Ytanfmpkjcoolmaa.mirrorOrder
namespace Go.Proofs.Ytanfmpkjcoolmaa
/-- The statement, under a short name, for the claim. -/
theorem mirrorOrder_upto : Rows.MirrorOrderUptoSaid := mirrorOrder.proved
#print axioms mirrorOrder_upto
end Go.Proofs.Ytanfmpkjcoolmaa
