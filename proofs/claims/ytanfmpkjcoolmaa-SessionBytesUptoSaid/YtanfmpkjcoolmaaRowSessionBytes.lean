/- SessionBytes: true of every input whose bulk is at most 1048576. Conditions: none but that bound. -/
import Derived.Test.YtanfmpkjcoolmaaFacts
import Derived.Test.YtanfmpkjcoolmaaRows
import Derived.Test.YtanfmpkjcoolmaaAbsR
import Derived.Test.YtanfmpkjcoolmaaScA
import Derived.WalkKit
import Derived.ProofKit
import Derived.OpenShut
import Derived.JoinedCond
import Derived.ChangeOld
import Derived.Below
import Derived.Carry
namespace Go.Proofs.Ytanfmpkjcoolmaa.sessionBytes
open Go.ChangeShapes Go.WideShapes Go.ChangeAt Go.RowKit Go.Proofs.Ytanfmpkjcoolmaa.Rd Go.Abs Go.Proofs.Ytanfmpkjcoolmaa
set_option linter.unusedVariables false

theorem j0 : (Rows.sessionBytesUptoRow.wf (OpenSpec.ofChange (Rows.OpenSpec.upto Rows.sessionBytesSpec).bare)) = true := by kernel_rfl
theorem j3 : (Try.f30.params.all (Try.prog.readableRec ·)) = true := by kernel_rfl
theorem j4 : (namedTie Try.prog Rows.sessionBytesUptoRow.named (Rows.OpenSpec.upto Rows.sessionBytesSpec).bare.vars) = true := by kernel_rfl
theorem j5 : ((Rows.sessionBytesUptoRow.stops == [])) = true := by kernel_rfl
theorem j7 : ((Rows.sessionBytesUptoRow.knobs == [])) = true := by kernel_rfl
theorem j9 : ((Rows.sessionBytesUptoRow.inPlace == Try.prog.inPlace 30)) = true := by kernel_rfl
theorem j10 : ((Rows.sessionBytesUptoRow.unfollowed == Try.prog.unfollowed 30)) = true := by kernel_rfl
theorem j11 : ((Rows.sessionBytesUptoRow.recurses == Try.prog.recurses 30)) = true := by kernel_rfl
theorem j12 : ((Rows.sessionBytesUptoRow.named == Try.prog.varsNamed 30)) = true := by kernel_rfl
theorem j13 : ((Rows.sessionBytesUptoRow.maps == (Try.f30.params.toList ++ (Rows.OpenSpec.upto Rows.sessionBytesSpec).bare.plain.varTypes Try.prog).any (Try.prog.mapsRec ·))) = true := by kernel_rfl
theorem j14 : ((Rows.sessionBytesUptoRow.ifaces == (Try.f30.params.toList ++ (Rows.OpenSpec.upto Rows.sessionBytesSpec).bare.plain.varTypes Try.prog).any (Try.prog.ifacesRec ·))) = true := by kernel_rfl
theorem j15 : ((Rows.sessionBytesUptoRow.mapsOut == Try.prog.mapsAmong Try.f30.resultTypes.toList)) = true := by kernel_rfl
theorem j16 : ((Rows.sessionBytesUptoRow.loops == (Try.f30.params.toList ++ (Rows.OpenSpec.upto Rows.sessionBytesSpec).bare.plain.varTypes Try.prog).any (Try.prog.loopsFrom ·))) = true := by kernel_rfl
theorem j17 : ((Rows.sessionBytesUptoRow.wideKeys == (Try.f30.params.toList ++ (Rows.OpenSpec.upto Rows.sessionBytesSpec).bare.plain.varTypes Try.prog ++ Try.f30.resultTypes.toList).any (Try.prog.wideKeysFrom ·))) = true := by kernel_rfl
theorem j18 : ((Rows.OpenSpec.upto Rows.sessionBytesSpec).bare.vars.all (Try.prog.varReadable ·)) = true := by kernel_rfl
theorem j19 : (Try.f30.resultTypes.all (fun t => Try.prog.readableRec t && decide (t < Try.prog.types.size))) = true := by kernel_rfl
theorem j20 : ((Rows.sessionBytesUptoRow.ifacesOut == Try.f30.resultTypes.toList.any (Try.prog.ifacesRec ·))) = true := by kernel_rfl
theorem j21 : ((Rows.sessionBytesUptoRow.loopsOut == Try.f30.resultTypes.toList.any (Try.prog.loopsFrom ·))) = true := by kernel_rfl
theorem j22 : ((Rows.sessionBytesUptoRow.plainKeys == Try.prog.plainKeys)) = true := by kernel_rfl
theorem j23 : (Rows.sessionBytesUptoRow.shortTexts.isNone) = true := by kernel_rfl
theorem j26 : ((Rows.sessionBytesUptoRow.lifted == Try.prog.liftsFinal)) = true := by rw [Facts.lifts]; rfl
theorem j27 : ((Try.prog.make == some Rows.sessionBytesUptoRow.make)) = true := by rw [Facts.made]; rfl
theorem j28 : ((Rows.sessionBytesUptoRow.kinds == (if Rows.sessionBytesUptoRow.domain.isEmpty then [] else Try.f30.params.toList.map fun t => match Try.prog.underlying t with | some (.int k) => some k | _ => none))) = true := by kernel_rfl
theorem j29 : ((Rows.sessionBytesUptoRow.pinned == Rows.sessionBytesUptoRow.pinnedBy)) = true := by kernel_rfl
theorem j30 : ((Rows.sessionBytesUptoRow.veiled == (Try.f30.params.toList ++ (Rows.OpenSpec.upto Rows.sessionBytesSpec).bare.plain.varTypes Try.prog ++ Try.f30.resultTypes.toList).any (Try.prog.veiledRec ·))) = true := by kernel_rfl
theorem j31 : (Rows.sessionBytesUptoRow.veiledFits Try.prog Try.f30.params.toList (Try.f30.params.toList ++ (Rows.OpenSpec.upto Rows.sessionBytesSpec).bare.plain.varTypes Try.prog ++ Try.f30.resultTypes.toList)) = true := by kernel_rfl
set_option maxRecDepth 100000 in
theorem closed : joinedFacts Try.prog 30 Try.f30 (Rows.OpenSpec.upto Rows.sessionBytesSpec).bare Rows.sessionBytesUptoRow = true := (Facts.and2 (Facts.and2 (Facts.and2 (Facts.and2 (Facts.and2 (Facts.and2 (Facts.and2 (Facts.and2 (Facts.and2 (Facts.and2 (Facts.and2 (Facts.and2 (Facts.and2 (Facts.and2 (Facts.and2 (Facts.and2 (Facts.and2 (Facts.and2 (Facts.and2 (Facts.and2 (Facts.and2 (Facts.and2 (Facts.and2 (Facts.and2 (Facts.and2 (Facts.and2 (Facts.and2 (Facts.and2 (Facts.and2 (Facts.and2 (Facts.and2 j0 Facts.laidOut) Facts.rowed) j3) j4) j5) Facts.stops) j7) Facts.stopKnobs) j9) j10) j11) j12) j13) j14) j15) j16) j17) j18) j19) j20) j21) j22) j23) Facts.heard) Facts.enter) j26) j27) j28) j29) j30) j31)
theorem own : ownKnob Try.prog.godebug = none := by kernel_rfl
theorem laidOut : laidOutB Try.prog = true := Facts.laidOut
theorem ty5 : Ty Try.prog 5 (fun n : Int => [.val (.int .u8 n)]) (okI .u8) (fun _ => 1) := Ty.int Try.underlying5 (by kernel_rfl)
theorem ty22 : Ty Try.prog 22 (fun l : List Int => [.sl none (l.map (fun n => [.val (.int .u8 n)])) .ro]) (fun l => ∀ a ∈ l, (okI .u8) a) (fun l => (l.map (fun _ => 1)).sum + 1) := Ty.slice Try.underlying22 (by kernel_rfl) ty5
theorem ty2 : Ty Try.prog 2 (fun n : Int => [.val (.int .i64 n)]) (okI .i64) (fun _ => 1) := Ty.int Try.underlying2 (by kernel_rfl)
theorem ty157 : Ty Try.prog 157 ((fun x => [.val (.int .i64 x.b), .val (.int .i64 x.p), .val (.int .i64 x.s), .val (.int .i64 x.a), .sl none (ints .u8 x.l) .ro]) : Pq → List D) (fun x => ∀ a ∈ x.l, okI .u8 a) (fun x => (x.l.map fun _ => 1).sum + 1) :=
  (Ty.structN (P := Try.prog) (t := 157) Try.underlying157 (by kernel_rfl) (Fs.cons (n := 1) ty2 rfl (by kernel_rfl) (Fs.cons (n := 1) ty2 rfl (by kernel_rfl) (Fs.cons (n := 1) ty2 rfl (by kernel_rfl) (Fs.cons (n := 1) ty2 rfl (by kernel_rfl) (Fs.cons (n := 1) ty22 rfl (by kernel_rfl) (Fs.nil 5))))))).map (fun p => (⟨p.1, p.2.1, p.2.2.1, p.2.2.2.1, p.2.2.2.2.1⟩ : Pq)) (fun a => (a.b, a.p, a.s, a.a, a.l, ())) (fun _ => rfl) (fun _ => rfl) (fun p h => h.2.2.2.2.1) (fun _ => by first | omega | (dsimp only; omega))
theorem len_ok {H : Type} {α : Type} {d : DataW H} {xs : List α} (h : (xs.map fun _ => 1).sum + 1 ≤ Rows.uptoBulk d) (hb : Rows.uptoBulk d ≤ 1048576) : xs.length ≤ 1048576 := by
  have := len_le_sum (sz := fun _ : α => 1) (fun _ => Nat.le_refl _) xs
  omega
theorem byt_ok {b : List Int} (h : ∀ a ∈ b, okI .u8 a) : Byt b := fun x hx => h x hx
theorem l40_ok {H : Type} {d : DataW H} {xs : List Int} (h : (xs.map fun _ => 1).sum + 1 ≤ Rows.uptoBulk d) (hb : Rows.uptoBulk d ≤ 1048576) : L40 xs := Nat.le_trans (len_ok h hb) (by decide)
set_option maxRecDepth 100000 in
theorem contract (H : Type) (enc : TypeId × Value → H) (W : World) (base : Nat) (args : Array Value) (ds gs : List (DataW H)) (before : List MemPlace)
    (hval : ∀ (j : Nat) t v, Try.f30.params[j]? = some t → args[j]? = some v → Value.okWide Try.prog W .any base t v)
    (hW : DataW.Whole enc Try.prog Try.f30.params.toList Rows.sessionBytesSpec.vars false W args.toList ds gs before) (hk : Rows.uptoSmall H (ds ++ gs) = true) :
    Calls Try.prog 30 args W fun e W' => ∃ v, e = .returned v ∧ Rows.sessionBytesSpec.post enc Try.prog Try.f30 false true false false W args v W' := by
  have hW' := hW
  obtain ⟨p, q, hA0, hV, rfl, hfz, hnd⟩ := hW
  have hA : DataW.TrodAll enc Try.prog W 0 (fun _ => true) true Try.f30.params.toList args.toList ds p := hA0
  rw [Try.params30] at hA hval
  obtain ⟨v0, vs0, d0, ds0, p0, q0, hargs, rfl, rfl, h0, r0⟩ := trodAll_cons hA
  obtain ⟨v1, vs1, d1, ds1, p1, q1, rfl, rfl, rfl, h1, r1⟩ := trodAll_cons r0
  obtain ⟨v2, vs2, d2, ds2, p2, q2, rfl, rfl, rfl, h2, r2⟩ := trodAll_cons r1
  obtain ⟨rfl, rfl, rfl⟩ := trodAll_nil r2
  obtain rfl : args = #[v0, v1, v2] := by cases args; simp_all
  obtain ⟨rfl, rfl⟩ := trodVars_none hV
  clear hA0
  simp only [List.append_nil] at hW' hk
  have hb : Rows.uptoBulkAll [d0, d1, d2] ≤ 1048576 := of_decide_eq_true hk
  simp only [Rows.uptoBulkAll] at hb
  have k0 := h0
  have lt0 : ∀ x ∈ p0, x.block < W.heap.size := by obtain ⟨m, hm⟩ := k0; exact DataW.trod_lt m _ _ _ hm
  obtain ⟨cs0, rfl, cn0⟩ := okWide_struct Try.underlying157 (hval 0 157 v0 rfl rfl)
  obtain ⟨f0, hf0⟩ := h0
  obtain ⟨p, ok0, cr0, sz0⟩ := ty157.read hf0
  have k1 := h1
  have lt1 : ∀ x ∈ p1, x.block < W.heap.size := by obtain ⟨m, hm⟩ := k1; exact DataW.trod_lt m _ _ _ hm
  obtain ⟨a1, len1, cap1, rfl⟩ := okWide_slice Try.underlying22 (hval 1 22 v1 rfl rfl)
  obtain ⟨f1, hf1⟩ := h1
  obtain ⟨b, ok1, cr1, sz1⟩ := ty22.read hf1
  have k2 := h2
  have lt2 : ∀ x ∈ p2, x.block < W.heap.size := by obtain ⟨m, hm⟩ := k2; exact DataW.trod_lt m _ _ _ hm
  obtain ⟨a2, rfl⟩ : ∃ n, v2 = .int .i64 n := by obtain ⟨n, e, _⟩ := open_int Try.underlying2 (hval 2 2 v2 rfl rfl) h2; exact ⟨n, e⟩
  obtain ⟨f2, hf2⟩ := h2
  obtain ⟨n, ok2, cr2, sz2⟩ := ty2.read hf2
  refine (law_calls (Sc.Bytes_calls p b n (byt_ok ok0) (l40_ok sz0 (by omega)) (byt_ok ok1) (l40_ok sz1 (by omega))) (CR.cons (arg_agg cr0) (CR.cons (arg_one cr1) (CR.cons (arg_one cr2) CR.nil)))).mono fun e W' ⟨he, bel⟩ => ?_
  subst he
  exact ⟨_, rfl, _, _, _, [], _, [], hW', trodAll_mk1 (shut_bool Try.underlying4 _), (trodAll_cons_mk (Below.trod laidOut (by kernel_rfl) (of_decide_eq_true (by kernel_rfl)) k0 bel lt0) (trodAll_cons_mk (Below.trod laidOut (by kernel_rfl) (of_decide_eq_true (by kernel_rfl)) k1 bel lt1) (trodAll_cons_mk (Below.trod laidOut (by kernel_rfl) (of_decide_eq_true (by kernel_rfl)) k2 bel lt2) trodAll_mk0))), rfl, bel.frame _, fun h => by cases h⟩

set_option maxRecDepth 100000 in
theorem lifted (os : Os) (started : os.Started) (H : Type) (enc : TypeId × Value → H) (F : Stop.Interp) :
    ReturnsInHanded {} Try.checked os 30 .any ((Rows.OpenSpec.upto Rows.sessionBytesSpec).pre6 enc Try.prog Try.f30 Rows.sessionBytesUptoRow.domain false) (((Rows.OpenSpec.upto Rows.sessionBytesSpec).at F).post enc Try.prog Try.f30 false true false false) := by
  refine returnsInHanded_of_cond (C := Try.checked) (s := Rows.OpenSpec.upto Rows.sessionBytesSpec) (k := Rows.uptoSmall) rfl own started (by kernel_rfl) Try.func30
    (OpenSpec.witness (enc := enc) (C := Try.checked) (s := Rows.OpenSpec.upto Rows.sessionBytesSpec) (k := Rows.uptoSmall) rfl false ⟨#[], #[.agg #[.int .i64 0, .int .i64 0, .int .i64 0, .int .i64 0, .slice none 0 0], .slice none 0 0, .int .i64 0], []⟩ 8 (by kernel_rfl) (by kernel_rfl) (by kernel_rfl)
      (x := ([.agg [.lit (.int .i64 0), .lit (.int .i64 0), .lit (.int .i64 0), .lit (.int .i64 0), .nil], .nil, .lit (.int .i64 0)], [], [])) (by kernel_rfl) rfl (by kernel_rfl)) ?_
  intro W base args ds gs before hval hW _ hk _
  exact contract H enc W base args ds gs before hval hW hk

theorem over : Rows.sessionBytesUptoRow.holds Try.pinned (Rows.OpenSpec.upto Rows.sessionBytesSpec) :=
  OpenClaim.holds_of_cond 30 Try.f30 rfl rfl rfl rfl rfl rfl rfl ⟨rfl, rfl, rfl, rfl, rfl⟩ rfl rfl rfl rfl rfl (by kernel_rfl) Try.func30 closed
    (of_decide_eq_true (by kernel_rfl)) (by unfold Func.isWrapper; first | (rw [if_pos (by decide +kernel)]; kernel_rfl) | (rw [if_neg (by decide +kernel)]; exact ⟨rfl, rfl⟩))
    (fun os started H enc _ F => lifted os started H enc F)

theorem proved : Rows.SessionBytesUptoSaid := over
end Go.Proofs.Ytanfmpkjcoolmaa.sessionBytes
namespace Go.Proofs.Ytanfmpkjcoolmaa
/-- The statement, under a short name, for the claim. -/
theorem sessionBytes_upto : Rows.SessionBytesUptoSaid := sessionBytes.proved
#print axioms sessionBytes_upto
end Go.Proofs.Ytanfmpkjcoolmaa
