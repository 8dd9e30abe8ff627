/- OffsetDoes: true of every input whose bulk is at most 1048576. Conditions: none but that bound. -/
import Derived.Test.YtanfmpkjcoolmaaFacts
import Derived.Test.YtanfmpkjcoolmaaRows
import Derived.Test.YtanfmpkjcoolmaaAbsR
import Derived.Test.YtanfmpkjcoolmaaOmA
import Derived.WalkKit
import Derived.ProofKit
import Derived.OpenShut
import Derived.JoinedCond
import Derived.ChangeOld
import Derived.Below
import Derived.Carry
namespace Go.Proofs.Ytanfmpkjcoolmaa.offsetDoes
open Go.ChangeShapes Go.WideShapes Go.ChangeAt Go.RowKit Go.Proofs.Ytanfmpkjcoolmaa.Rd Go.Abs Go.Proofs.Ytanfmpkjcoolmaa
set_option linter.unusedVariables false

theorem j0 : (Rows.offsetDoesUptoRow.wf (OpenSpec.ofChange (Rows.OpenSpec.upto Rows.offsetDoesSpec).bare)) = true := by kernel_rfl
theorem j3 : (Try.f32.params.all (Try.prog.readableRec ·)) = true := by kernel_rfl
theorem j4 : (namedTie Try.prog Rows.offsetDoesUptoRow.named (Rows.OpenSpec.upto Rows.offsetDoesSpec).bare.vars) = true := by kernel_rfl
theorem j5 : ((Rows.offsetDoesUptoRow.stops == [])) = true := by kernel_rfl
theorem j7 : ((Rows.offsetDoesUptoRow.knobs == [])) = true := by kernel_rfl
theorem j9 : ((Rows.offsetDoesUptoRow.inPlace == Try.prog.inPlace 32)) = true := by kernel_rfl
theorem j10 : ((Rows.offsetDoesUptoRow.unfollowed == Try.prog.unfollowed 32)) = true := by kernel_rfl
theorem j11 : ((Rows.offsetDoesUptoRow.recurses == Try.prog.recurses 32)) = true := by kernel_rfl
theorem j12 : ((Rows.offsetDoesUptoRow.named == Try.prog.varsNamed 32)) = true := by kernel_rfl
theorem j13 : ((Rows.offsetDoesUptoRow.maps == (Try.f32.params.toList ++ (Rows.OpenSpec.upto Rows.offsetDoesSpec).bare.plain.varTypes Try.prog).any (Try.prog.mapsRec ·))) = true := by kernel_rfl
theorem j14 : ((Rows.offsetDoesUptoRow.ifaces == (Try.f32.params.toList ++ (Rows.OpenSpec.upto Rows.offsetDoesSpec).bare.plain.varTypes Try.prog).any (Try.prog.ifacesRec ·))) = true := by kernel_rfl
theorem j15 : ((Rows.offsetDoesUptoRow.mapsOut == Try.prog.mapsAmong Try.f32.resultTypes.toList)) = true := by kernel_rfl
theorem j16 : ((Rows.offsetDoesUptoRow.loops == (Try.f32.params.toList ++ (Rows.OpenSpec.upto Rows.offsetDoesSpec).bare.plain.varTypes Try.prog).any (Try.prog.loopsFrom ·))) = true := by kernel_rfl
theorem j17 : ((Rows.offsetDoesUptoRow.wideKeys == (Try.f32.params.toList ++ (Rows.OpenSpec.upto Rows.offsetDoesSpec).bare.plain.varTypes Try.prog ++ Try.f32.resultTypes.toList).any (Try.prog.wideKeysFrom ·))) = true := by kernel_rfl
theorem j18 : ((Rows.OpenSpec.upto Rows.offsetDoesSpec).bare.vars.all (Try.prog.varReadable ·)) = true := by kernel_rfl
theorem j19 : (Try.f32.resultTypes.all (fun t => Try.prog.readableRec t && decide (t < Try.prog.types.size))) = true := by kernel_rfl
theorem j20 : ((Rows.offsetDoesUptoRow.ifacesOut == Try.f32.resultTypes.toList.any (Try.prog.ifacesRec ·))) = true := by kernel_rfl
theorem j21 : ((Rows.offsetDoesUptoRow.loopsOut == Try.f32.resultTypes.toList.any (Try.prog.loopsFrom ·))) = true := by kernel_rfl
theorem j22 : ((Rows.offsetDoesUptoRow.plainKeys == Try.prog.plainKeys)) = true := by kernel_rfl
theorem j23 : (Rows.offsetDoesUptoRow.shortTexts.isNone) = true := by kernel_rfl
theorem j26 : ((Rows.offsetDoesUptoRow.lifted == Try.prog.liftsFinal)) = true := by rw [Facts.lifts]; rfl
theorem j27 : ((Try.prog.make == some Rows.offsetDoesUptoRow.make)) = true := by rw [Facts.made]; rfl
theorem j28 : ((Rows.offsetDoesUptoRow.kinds == (if Rows.offsetDoesUptoRow.domain.isEmpty then [] else Try.f32.params.toList.map fun t => match Try.prog.underlying t with | some (.int k) => some k | _ => none))) = true := by kernel_rfl
theorem j29 : ((Rows.offsetDoesUptoRow.pinned == Rows.offsetDoesUptoRow.pinnedBy)) = true := by kernel_rfl
theorem j30 : ((Rows.offsetDoesUptoRow.veiled == (Try.f32.params.toList ++ (Rows.OpenSpec.upto Rows.offsetDoesSpec).bare.plain.varTypes Try.prog ++ Try.f32.resultTypes.toList).any (Try.prog.veiledRec ·))) = true := by kernel_rfl
theorem j31 : (Rows.offsetDoesUptoRow.veiledFits Try.prog Try.f32.params.toList (Try.f32.params.toList ++ (Rows.OpenSpec.upto Rows.offsetDoesSpec).bare.plain.varTypes Try.prog ++ Try.f32.resultTypes.toList)) = true := by kernel_rfl
set_option maxRecDepth 100000 in
theorem closed : joinedFacts Try.prog 32 Try.f32 (Rows.OpenSpec.upto Rows.offsetDoesSpec).bare Rows.offsetDoesUptoRow = true := (Facts.and2 (Facts.and2 (Facts.and2 (Facts.and2 (Facts.and2 (Facts.and2 (Facts.and2 (Facts.and2 (Facts.and2 (Facts.and2 (Facts.and2 (Facts.and2 (Facts.and2 (Facts.and2 (Facts.and2 (Facts.and2 (Facts.and2 (Facts.and2 (Facts.and2 (Facts.and2 (Facts.and2 (Facts.and2 (Facts.and2 (Facts.and2 (Facts.and2 (Facts.and2 (Facts.and2 (Facts.and2 (Facts.and2 (Facts.and2 (Facts.and2 j0 Facts.laidOut) Facts.rowed) j3) j4) j5) Facts.stops) j7) Facts.stopKnobs) j9) j10) j11) j12) j13) j14) j15) j16) j17) j18) j19) j20) j21) j22) j23) Facts.heard) Facts.enter) j26) j27) j28) j29) j30) j31)
theorem own : ownKnob Try.prog.godebug = none := by kernel_rfl
theorem laidOut : laidOutB Try.prog = true := Facts.laidOut
theorem ty2 : Ty Try.prog 2 (fun n : Int => [.val (.int .i64 n)]) (okI .i64) (fun _ => 1) := Ty.int Try.underlying2 (by kernel_rfl)
theorem ty3 : Ty Try.prog 3 (fun n : Int => [.val (.int .i64 n)]) (okI .i64) (fun _ => 1) := Ty.int Try.underlying3 (by kernel_rfl)
theorem ty200 : Ty Try.prog 200 (spz : Sp → List D) (fun _ => True) (fun _ => 1) :=
  (Ty.structN (P := Try.prog) (t := 200) Try.underlying200 (by kernel_rfl) (Fs.cons (n := 1) ty2 rfl (by kernel_rfl) (Fs.cons (n := 1) ty3 rfl (by kernel_rfl) (Fs.cons (n := 1) ty2 rfl (by kernel_rfl) (Fs.cons (n := 1) ty2 rfl (by kernel_rfl) (Fs.nil 4)))))).map (fun p => (⟨p.1, p.2.1, p.2.2.1, p.2.2.2.1⟩ : Sp)) (fun a => (a.e, a.r, a.p, a.o, ())) (fun _ => rfl) (fun _ => rfl) (fun p h => trivial) (fun _ => by first | omega | (dsimp only; omega))
theorem ty186 : Ty Try.prog 186 (fun l : List Sp => [.sl none (l.map spz) .ro]) (fun l => ∀ a ∈ l, (fun _ => True) a) (fun l => (l.map (fun _ => 1)).sum + 1) := Ty.slice Try.underlying186 (by kernel_rfl) ty200
theorem ty188 : Ty Try.prog 188 ((fun t => [.sl none (t.l.map spz) .ro, .val (.int .i64 t.n)]) : Tb → List D) (fun _ => True) (fun t => (t.l.map fun _ => 1).sum + 1) :=
  (Ty.structN (P := Try.prog) (t := 188) Try.underlying188 (by kernel_rfl) (Fs.cons (n := 1) ty186 rfl (by kernel_rfl) (Fs.cons (n := 1) ty2 rfl (by kernel_rfl) (Fs.nil 2)))).map (fun p => (⟨p.1, p.2.1⟩ : Tb)) (fun a => (a.l, a.n, ())) (fun _ => rfl) (fun _ => rfl) (fun p h => trivial) (fun _ => by first | omega | (dsimp only; omega))
theorem ty230 : Ty Try.prog 230 (Tb.oz : Tb.Opr → List D) (Tb.okO) (fun _ => 1) :=
  (Ty.structN (P := Try.prog) (t := 230) Try.underlying230 (by kernel_rfl) (Fs.cons (n := 1) ty3 rfl (by kernel_rfl) (Fs.cons (n := 1) ty2 rfl (by kernel_rfl) (Fs.cons (n := 1) ty3 rfl (by kernel_rfl) (Fs.cons (n := 1) ty2 rfl (by kernel_rfl) (Fs.nil 4)))))).map (fun p => (⟨p.1, p.2.1, p.2.2.1, p.2.2.2.1⟩ : Tb.Opr)) (fun a => (a.d, a.e, a.r, a.x, ())) (fun _ => rfl) (fun _ => rfl) (fun p h => ⟨h.2.2.2.1.1, h.2.2.2.1.2⟩) (fun _ => by first | omega | (dsimp only; omega))
theorem ty226 : Ty Try.prog 226 (fun l : List Tb.Opr => [.sl none (l.map Tb.oz) .ro]) (fun l => ∀ a ∈ l, (Tb.okO) a) (fun l => (l.map (fun _ => 1)).sum + 1) := Ty.slice Try.underlying226 (by kernel_rfl) ty230
theorem len_ok {H : Type} {α : Type} {d : DataW H} {xs : List α} (h : (xs.map fun _ => 1).sum + 1 ≤ Rows.uptoBulk d) (hb : Rows.uptoBulk d ≤ 1048576) : xs.length ≤ 1048576 := by
  have := len_le_sum (sz := fun _ : α => 1) (fun _ => Nat.le_refl _) xs
  omega
set_option maxRecDepth 100000 in
theorem contract (H : Type) (enc : TypeId × Value → H) (W : World) (base : Nat) (args : Array Value) (ds gs : List (DataW H)) (before : List MemPlace)
    (hval : ∀ (j : Nat) t v, Try.f32.params[j]? = some t → args[j]? = some v → Value.okWide Try.prog W .any base t v)
    (hW : DataW.Whole enc Try.prog Try.f32.params.toList Rows.offsetDoesSpec.vars false W args.toList ds gs before) (hk : Rows.uptoSmall H (ds ++ gs) = true) :
    Calls Try.prog 32 args W fun e W' => ∃ v, e = .returned v ∧ Rows.offsetDoesSpec.post enc Try.prog Try.f32 false true false false W args v W' := by
  have hW' := hW
  obtain ⟨p, q, hA0, hV, rfl, hfz, hnd⟩ := hW
  have hA : DataW.TrodAll enc Try.prog W 0 (fun _ => true) true Try.f32.params.toList args.toList ds p := hA0
  rw [Try.params32] at hA hval
  obtain ⟨v0, vs0, d0, ds0, p0, q0, hargs, rfl, rfl, h0, r0⟩ := trodAll_cons hA
  obtain ⟨v1, vs1, d1, ds1, p1, q1, rfl, rfl, rfl, h1, r1⟩ := trodAll_cons r0
  obtain ⟨v2, vs2, d2, ds2, p2, q2, rfl, rfl, rfl, h2, r2⟩ := trodAll_cons r1
  obtain ⟨v3, vs3, d3, ds3, p3, q3, rfl, rfl, rfl, h3, r3⟩ := trodAll_cons r2
  obtain ⟨rfl, rfl, rfl⟩ := trodAll_nil r3
  obtain rfl : args = #[v0, v1, v2, v3] := by cases args; simp_all
  obtain ⟨rfl, rfl⟩ := trodVars_none hV
  clear hA0
  simp only [List.append_nil] at hW' hk
  have hb : Rows.uptoBulkAll [d0, d1, d2, d3] ≤ 1048576 := of_decide_eq_true hk
  simp only [Rows.uptoBulkAll] at hb
  have k0 := h0
  have lt0 : ∀ x ∈ p0, x.block < W.heap.size := by obtain ⟨m, hm⟩ := k0; exact DataW.trod_lt m _ _ _ hm
  obtain ⟨cs0, rfl, cn0⟩ := okWide_struct Try.underlying188 (hval 0 188 v0 rfl rfl)
  obtain ⟨f0, hf0⟩ := h0
  obtain ⟨t, ok0, cr0, sz0⟩ := ty188.read hf0
  have k1 := h1
  have lt1 : ∀ x ∈ p1, x.block < W.heap.size := by obtain ⟨m, hm⟩ := k1; exact DataW.trod_lt m _ _ _ hm
  obtain ⟨a1, len1, cap1, rfl⟩ := okWide_slice Try.underlying226 (hval 1 226 v1 rfl rfl)
  obtain ⟨f1, hf1⟩ := h1
  obtain ⟨ops, ok1, cr1, sz1⟩ := ty226.read hf1
  have k2 := h2
  have lt2 : ∀ x ∈ p2, x.block < W.heap.size := by obtain ⟨m, hm⟩ := k2; exact DataW.trod_lt m _ _ _ hm
  obtain ⟨a2, rfl⟩ : ∃ n, v2 = .int .i64 n := by obtain ⟨n, e, _⟩ := open_int Try.underlying2 (hval 2 2 v2 rfl rfl) h2; exact ⟨n, e⟩
  obtain ⟨f2, hf2⟩ := h2
  obtain ⟨p, ok2, cr2, sz2⟩ := ty2.read hf2
  have k3 := h3
  have lt3 : ∀ x ∈ p3, x.block < W.heap.size := by obtain ⟨m, hm⟩ := k3; exact DataW.trod_lt m _ _ _ hm
  obtain ⟨a3, rfl⟩ : ∃ n, v3 = .int .i64 n := by obtain ⟨n, e, _⟩ := open_int Try.underlying2 (hval 3 2 v3 rfl rfl) h3; exact ⟨n, e⟩
  obtain ⟨f3, hf3⟩ := h3
  obtain ⟨n, ok3, cr3, sz3⟩ := ty2.read hf3
  refine (law_calls (Om.Does_calls t ops p n (len_ok sz0 (by omega)) (len_ok sz1 (by omega)) ok1) (CR.cons (arg_agg cr0) (CR.cons (arg_one cr1) (CR.cons (arg_one cr2) (CR.cons (arg_one cr3) CR.nil))))).mono fun e W' ⟨he, bel⟩ => ?_
  subst he
  exact ⟨_, rfl, _, _, _, [], _, [], hW', trodAll_mk1 (shut_bool Try.underlying4 _), (trodAll_cons_mk (Below.trod laidOut (by kernel_rfl) (of_decide_eq_true (by kernel_rfl)) k0 bel lt0) (trodAll_cons_mk (Below.trod laidOut (by kernel_rfl) (of_decide_eq_true (by kernel_rfl)) k1 bel lt1) (trodAll_cons_mk (Below.trod laidOut (by kernel_rfl) (of_decide_eq_true (by kernel_rfl)) k2 bel lt2) (trodAll_cons_mk (Below.trod laidOut (by kernel_rfl) (of_decide_eq_true (by kernel_rfl)) k3 bel lt3) trodAll_mk0)))), rfl, bel.frame _, fun h => by cases h⟩

set_option maxRecDepth 100000 in
theorem lifted (os : Os) (started : os.Started) (H : Type) (enc : TypeId × Value → H) (F : Stop.Interp) :
    ReturnsInHanded {} Try.checked os 32 .any ((Rows.OpenSpec.upto Rows.offsetDoesSpec).pre6 enc Try.prog Try.f32 Rows.offsetDoesUptoRow.domain false) (((Rows.OpenSpec.upto Rows.offsetDoesSpec).at F).post enc Try.prog Try.f32 false true false false) := by
  refine returnsInHanded_of_cond (C := Try.checked) (s := Rows.OpenSpec.upto Rows.offsetDoesSpec) (k := Rows.uptoSmall) rfl own started (by kernel_rfl) Try.func32
    (OpenSpec.witness (enc := enc) (C := Try.checked) (s := Rows.OpenSpec.upto Rows.offsetDoesSpec) (k := Rows.uptoSmall) rfl false ⟨#[], #[.agg #[.slice none 0 0, .int .i64 0], .slice none 0 0, .int .i64 0, .int .i64 0], []⟩ 8 (by kernel_rfl) (by kernel_rfl) (by kernel_rfl)
      (x := ([.agg [.nil, .lit (.int .i64 0)], .nil, .lit (.int .i64 0), .lit (.int .i64 0)], [], [])) (by kernel_rfl) rfl (by kernel_rfl)) ?_
  intro W base args ds gs before hval hW _ hk _
  exact contract H enc W base args ds gs before hval hW hk

theorem over : Rows.offsetDoesUptoRow.holds Try.pinned (Rows.OpenSpec.upto Rows.offsetDoesSpec) :=
  OpenClaim.holds_of_cond 32 Try.f32 rfl rfl rfl rfl rfl rfl rfl ⟨rfl, rfl, rfl, rfl, rfl⟩ rfl rfl rfl rfl rfl (by kernel_rfl) Try.func32 closed
    (of_decide_eq_true (by kernel_rfl)) (by unfold Func.isWrapper; first | (rw [if_pos (by decide +kernel)]; kernel_rfl) | (rw [if_neg (by decide +kernel)]; exact ⟨rfl, rfl⟩))
    (fun os started H enc _ F => lifted os started H enc F)

theorem proved : Rows.OffsetDoesUptoSaid := over
end Go.Proofs.Ytanfmpkjcoolmaa.offsetDoes
namespace Go.Proofs.Ytanfmpkjcoolmaa
/-- The statement, under a short name, for the claim. -/
theorem offsetDoes_upto : Rows.OffsetDoesUptoSaid := offsetDoes.proved
#print axioms offsetDoes_upto
end Go.Proofs.Ytanfmpkjcoolmaa
