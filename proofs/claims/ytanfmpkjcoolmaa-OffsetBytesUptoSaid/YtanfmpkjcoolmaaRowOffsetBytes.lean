/- OffsetBytes: true of every input whose bulk is at most 1048576. Conditions: none but that bound. -/
import Derived.Test.YtanfmpkjcoolmaaFacts
import Derived.Test.YtanfmpkjcoolmaaRows
import Derived.Test.YtanfmpkjcoolmaaAbsR
import Derived.Test.YtanfmpkjcoolmaaOkA
import Derived.WalkKit
import Derived.ProofKit
import Derived.OpenShut
import Derived.JoinedCond
import Derived.ChangeOld
import Derived.Below
import Derived.Carry
namespace Go.Proofs.Ytanfmpkjcoolmaa.offsetBytes
open Go.ChangeShapes Go.WideShapes Go.ChangeAt Go.RowKit Go.Proofs.Ytanfmpkjcoolmaa.Rd Go.Abs Go.Proofs.Ytanfmpkjcoolmaa
set_option linter.unusedVariables false

theorem j0 : (Rows.offsetBytesUptoRow.wf (OpenSpec.ofChange (Rows.OpenSpec.upto Rows.offsetBytesSpec).bare)) = true := by kernel_rfl
theorem j3 : (Try.f33.params.all (Try.prog.readableRec ·)) = true := by kernel_rfl
theorem j4 : (namedTie Try.prog Rows.offsetBytesUptoRow.named (Rows.OpenSpec.upto Rows.offsetBytesSpec).bare.vars) = true := by kernel_rfl
theorem j5 : ((Rows.offsetBytesUptoRow.stops == [])) = true := by kernel_rfl
theorem j7 : ((Rows.offsetBytesUptoRow.knobs == [])) = true := by kernel_rfl
theorem j9 : ((Rows.offsetBytesUptoRow.inPlace == Try.prog.inPlace 33)) = true := by kernel_rfl
theorem j10 : ((Rows.offsetBytesUptoRow.unfollowed == Try.prog.unfollowed 33)) = true := by kernel_rfl
theorem j11 : ((Rows.offsetBytesUptoRow.recurses == Try.prog.recurses 33)) = true := by kernel_rfl
theorem j12 : ((Rows.offsetBytesUptoRow.named == Try.prog.varsNamed 33)) = true := by kernel_rfl
theorem j13 : ((Rows.offsetBytesUptoRow.maps == (Try.f33.params.toList ++ (Rows.OpenSpec.upto Rows.offsetBytesSpec).bare.plain.varTypes Try.prog).any (Try.prog.mapsRec ·))) = true := by kernel_rfl
theorem j14 : ((Rows.offsetBytesUptoRow.ifaces == (Try.f33.params.toList ++ (Rows.OpenSpec.upto Rows.offsetBytesSpec).bare.plain.varTypes Try.prog).any (Try.prog.ifacesRec ·))) = true := by kernel_rfl
theorem j15 : ((Rows.offsetBytesUptoRow.mapsOut == Try.prog.mapsAmong Try.f33.resultTypes.toList)) = true := by kernel_rfl
theorem j16 : ((Rows.offsetBytesUptoRow.loops == (Try.f33.params.toList ++ (Rows.OpenSpec.upto Rows.offsetBytesSpec).bare.plain.varTypes Try.prog).any (Try.prog.loopsFrom ·))) = true := by kernel_rfl
theorem j17 : ((Rows.offsetBytesUptoRow.wideKeys == (Try.f33.params.toList ++ (Rows.OpenSpec.upto Rows.offsetBytesSpec).bare.plain.varTypes Try.prog ++ Try.f33.resultTypes.toList).any (Try.prog.wideKeysFrom ·))) = true := by kernel_rfl
theorem j18 : ((Rows.OpenSpec.upto Rows.offsetBytesSpec).bare.vars.all (Try.prog.varReadable ·)) = true := by kernel_rfl
theorem j19 : (Try.f33.resultTypes.all (fun t => Try.prog.readableRec t && decide (t < Try.prog.types.size))) = true := by kernel_rfl
theorem j20 : ((Rows.offsetBytesUptoRow.ifacesOut == Try.f33.resultTypes.toList.any (Try.prog.ifacesRec ·))) = true := by kernel_rfl
theorem j21 : ((Rows.offsetBytesUptoRow.loopsOut == Try.f33.resultTypes.toList.any (Try.prog.loopsFrom ·))) = true := by kernel_rfl
theorem j22 : ((Rows.offsetBytesUptoRow.plainKeys == Try.prog.plainKeys)) = true := by kernel_rfl
theorem j23 : (Rows.offsetBytesUptoRow.shortTexts.isNone) = true := by kernel_rfl
theorem j26 : ((Rows.offsetBytesUptoRow.lifted == Try.prog.liftsFinal)) = true := by rw [Facts.lifts]; rfl
theorem j27 : ((Try.prog.make == some Rows.offsetBytesUptoRow.make)) = true := by rw [Facts.made]; rfl
theorem j28 : ((Rows.offsetBytesUptoRow.kinds == (if Rows.offsetBytesUptoRow.domain.isEmpty then [] else Try.f33.params.toList.map fun t => match Try.prog.underlying t with | some (.int k) => some k | _ => none))) = true := by kernel_rfl
theorem j29 : ((Rows.offsetBytesUptoRow.pinned == Rows.offsetBytesUptoRow.pinnedBy)) = true := by kernel_rfl
theorem j30 : ((Rows.offsetBytesUptoRow.veiled == (Try.f33.params.toList ++ (Rows.OpenSpec.upto Rows.offsetBytesSpec).bare.plain.varTypes Try.prog ++ Try.f33.resultTypes.toList).any (Try.prog.veiledRec ·))) = true := by kernel_rfl
theorem j31 : (Rows.offsetBytesUptoRow.veiledFits Try.prog Try.f33.params.toList (Try.f33.params.toList ++ (Rows.OpenSpec.upto Rows.offsetBytesSpec).bare.plain.varTypes Try.prog ++ Try.f33.resultTypes.toList)) = true := by kernel_rfl
set_option maxRecDepth 100000 in
theorem closed : joinedFacts Try.prog 33 Try.f33 (Rows.OpenSpec.upto Rows.offsetBytesSpec).bare Rows.offsetBytesUptoRow = true := (Facts.and2 (Facts.and2 (Facts.and2 (Facts.and2 (Facts.and2 (Facts.and2 (Facts.and2 (Facts.and2 (Facts.and2 (Facts.and2 (Facts.and2 (Facts.and2 (Facts.and2 (Facts.and2 (Facts.and2 (Facts.and2 (Facts.and2 (Facts.and2 (Facts.and2 (Facts.and2 (Facts.and2 (Facts.and2 (Facts.and2 (Facts.and2 (Facts.and2 (Facts.and2 (Facts.and2 (Facts.and2 (Facts.and2 (Facts.and2 (Facts.and2 j0 Facts.laidOut) Facts.rowed) j3) j4) j5) Facts.stops) j7) Facts.stopKnobs) j9) j10) j11) j12) j13) j14) j15) j16) j17) j18) j19) j20) j21) j22) j23) Facts.heard) Facts.enter) j26) j27) j28) j29) j30) j31)
theorem own : ownKnob Try.prog.godebug = none := by kernel_rfl
theorem laidOut : laidOutB Try.prog = true := Facts.laidOut
theorem ty2 : Ty Try.prog 2 (fun n : Int => [.val (.int .i64 n)]) (okI .i64) (fun _ => 1) := Ty.int Try.underlying2 (by kernel_rfl)
theorem ty3 : Ty Try.prog 3 (fun n : Int => [.val (.int .i64 n)]) (okI .i64) (fun _ => 1) := Ty.int Try.underlying3 (by kernel_rfl)
theorem ty200 : Ty Try.prog 200 (spz : Sp → List D) (fun _ => True) (fun _ => 1) :=
  (Ty.structN (P := Try.prog) (t := 200) Try.underlying200 (by kernel_rfl) (Fs.cons (n := 1) ty2 rfl (by kernel_rfl) (Fs.cons (n := 1) ty3 rfl (by kernel_rfl) (Fs.cons (n := 1) ty2 rfl (by kernel_rfl) (Fs.cons (n := 1) ty2 rfl (by kernel_rfl) (Fs.nil 4)))))).map (fun p => (⟨p.1, p.2.1, p.2.2.1, p.2.2.2.1⟩ : Sp)) (fun a => (a.e, a.r, a.p, a.o, ())) (fun _ => rfl) (fun _ => rfl) (fun p h => trivial) (fun _ => by first | omega | (dsimp only; omega))
theorem ty186 : Ty Try.prog 186 (fun l : List Sp => [.sl none (l.map spz) .ro]) (fun l => ∀ a ∈ l, (fun _ => True) a) (fun l => (l.map (fun _ => 1)).sum + 1) := Ty.slice Try.underlying186 (by kernel_rfl) ty200
theorem ty188 : Ty Try.prog 188 ((fun t => [.sl none (t.l.map spz) .ro, .val (.int .i64 t.n)]) : Tb → List D) (fun _ => True) (fun t => (t.l.map fun _ => 1).sum + 1) :=
  (Ty.structN (P := Try.prog) (t := 188) Try.underlying188 (by kernel_rfl) (Fs.cons (n := 1) ty186 rfl (by kernel_rfl) (Fs.cons (n := 1) ty2 rfl (by kernel_rfl) (Fs.nil 2)))).map (fun p => (⟨p.1, p.2.1⟩ : Tb)) (fun a => (a.l, a.n, ())) (fun _ => rfl) (fun _ => rfl) (fun p h => trivial) (fun _ => by first | omega | (dsimp only; omega))
theorem ty5 : Ty Try.prog 5 (fun n : Int => [.val (.int .u8 n)]) (okI .u8) (fun _ => 1) := Ty.int Try.underlying5 (by kernel_rfl)
theorem ty22 : Ty Try.prog 22 (fun l : List Int => [.sl none (l.map (fun n => [.val (.int .u8 n)])) .ro]) (fun l => ∀ a ∈ l, (okI .u8) a) (fun l => (l.map (fun _ => 1)).sum + 1) := Ty.slice Try.underlying22 (by kernel_rfl) ty5
theorem len_ok {H : Type} {α : Type} {d : DataW H} {xs : List α} (h : (xs.map fun _ => 1).sum + 1 ≤ Rows.uptoBulk d) (hb : Rows.uptoBulk d ≤ 1048576) : xs.length ≤ 1048576 := by
  have := len_le_sum (sz := fun _ : α => 1) (fun _ => Nat.le_refl _) xs
  omega
theorem byt_ok {b : List Int} (h : ∀ a ∈ b, okI .u8 a) : Byt b := fun x hx => h x hx
theorem l40_ok {H : Type} {d : DataW H} {xs : List Int} (h : (xs.map fun _ => 1).sum + 1 ≤ Rows.uptoBulk d) (hb : Rows.uptoBulk d ≤ 1048576) : L40 xs := Nat.le_trans (len_ok h hb) (by decide)
set_option maxRecDepth 100000 in
theorem contract (H : Type) (enc : TypeId × Value → H) (W : World) (base : Nat) (args : Array Value) (ds gs : List (DataW H)) (before : List MemPlace)
    (hval : ∀ (j : Nat) t v, Try.f33.params[j]? = some t → args[j]? = some v → Value.okWide Try.prog W .any base t v)
    (hW : DataW.Whole enc Try.prog Try.f33.params.toList Rows.offsetBytesSpec.vars false W args.toList ds gs before) (hk : Rows.uptoSmall H (ds ++ gs) = true) :
    Calls Try.prog 33 args W fun e W' => ∃ v, e = .returned v ∧ Rows.offsetBytesSpec.post enc Try.prog Try.f33 false true false false W args v W' := by
  have hW' := hW
  obtain ⟨p, q, hA0, hV, rfl, hfz, hnd⟩ := hW
  have hA : DataW.TrodAll enc Try.prog W 0 (fun _ => true) true Try.f33.params.toList args.toList ds p := hA0
  rw [Try.params33] at hA hval
  obtain ⟨v0, vs0, d0, ds0, p0, q0, hargs, rfl, rfl, h0, r0⟩ := trodAll_cons hA
  obtain ⟨v1, vs1, d1, ds1, p1, q1, rfl, rfl, rfl, h1, r1⟩ := trodAll_cons r0
  obtain ⟨rfl, rfl, rfl⟩ := trodAll_nil r1
  obtain rfl : args = #[v0, v1] := by cases args; simp_all
  obtain ⟨rfl, rfl⟩ := trodVars_none hV
  clear hA0
  simp only [List.append_nil] at hW' hk
  have hb : Rows.uptoBulkAll [d0, d1] ≤ 1048576 := of_decide_eq_true hk
  simp only [Rows.uptoBulkAll] at hb
  have k0 := h0
  have lt0 : ∀ x ∈ p0, x.block < W.heap.size := by obtain ⟨m, hm⟩ := k0; exact DataW.trod_lt m _ _ _ hm
  obtain ⟨cs0, rfl, cn0⟩ := okWide_struct Try.underlying188 (hval 0 188 v0 rfl rfl)
  obtain ⟨f0, hf0⟩ := h0
  obtain ⟨t, ok0, cr0, sz0⟩ := ty188.read hf0
  have k1 := h1
  have lt1 : ∀ x ∈ p1, x.block < W.heap.size := by obtain ⟨m, hm⟩ := k1; exact DataW.trod_lt m _ _ _ hm
  obtain ⟨a1, len1, cap1, rfl⟩ := okWide_slice Try.underlying22 (hval 1 22 v1 rfl rfl)
  obtain ⟨f1, hf1⟩ := h1
  obtain ⟨b, ok1, cr1, sz1⟩ := ty22.read hf1
  refine (law_calls (Ok.Bytes_calls t b (len_ok sz0 (by omega)) (byt_ok ok1) (l40_ok sz1 (by omega))) (CR.cons (arg_agg cr0) (CR.cons (arg_one cr1) CR.nil))).mono fun e W' ⟨he, bel⟩ => ?_
  subst he
  exact ⟨_, rfl, _, _, _, [], _, [], hW', trodAll_mk1 (shut_bool Try.underlying4 _), (trodAll_cons_mk (Below.trod laidOut (by kernel_rfl) (of_decide_eq_true (by kernel_rfl)) k0 bel lt0) (trodAll_cons_mk (Below.trod laidOut (by kernel_rfl) (of_decide_eq_true (by kernel_rfl)) k1 bel lt1) trodAll_mk0)), rfl, bel.frame _, fun h => by cases h⟩

set_option maxRecDepth 100000 in
theorem lifted (os : Os) (started : os.Started) (H : Type) (enc : TypeId × Value → H) (F : Stop.Interp) :
    ReturnsInHanded {} Try.checked os 33 .any ((Rows.OpenSpec.upto Rows.offsetBytesSpec).pre6 enc Try.prog Try.f33 Rows.offsetBytesUptoRow.domain false) (((Rows.OpenSpec.upto Rows.offsetBytesSpec).at F).post enc Try.prog Try.f33 false true false false) := by
  refine returnsInHanded_of_cond (C := Try.checked) (s := Rows.OpenSpec.upto Rows.offsetBytesSpec) (k := Rows.uptoSmall) rfl own started (by kernel_rfl) Try.func33
    (OpenSpec.witness (enc := enc) (C := Try.checked) (s := Rows.OpenSpec.upto Rows.offsetBytesSpec) (k := Rows.uptoSmall) rfl false ⟨#[], #[.agg #[.slice none 0 0, .int .i64 0], .slice none 0 0], []⟩ 8 (by kernel_rfl) (by kernel_rfl) (by kernel_rfl)
      (x := ([.agg [.nil, .lit (.int .i64 0)], .nil], [], [])) (by kernel_rfl) rfl (by kernel_rfl)) ?_
  intro W base args ds gs before hval hW _ hk _
  exact contract H enc W base args ds gs before hval hW hk

theorem over : Rows.offsetBytesUptoRow.holds Try.pinned (Rows.OpenSpec.upto Rows.offsetBytesSpec) :=
  OpenClaim.holds_of_cond 33 Try.f33 rfl rfl rfl rfl rfl rfl rfl ⟨rfl, rfl, rfl, rfl, rfl⟩ rfl rfl rfl rfl rfl (by kernel_rfl) Try.func33 closed
    (of_decide_eq_true (by kernel_rfl)) (by unfold Func.isWrapper; first | (rw [if_pos (by decide +kernel)]; kernel_rfl) | (rw [if_neg (by decide +kernel)]; exact ⟨rfl, rfl⟩))
    (fun os started H enc _ F => lifted os started H enc F)

theorem proved : Rows.OffsetBytesUptoSaid := over
end Go.Proofs.Ytanfmpkjcoolmaa.offsetBytes
namespace Go.Proofs.Ytanfmpkjcoolmaa
/-- The statement, under a short name, for the claim. -/
theorem offsetBytes_upto : Rows.OffsetBytesUptoSaid := offsetBytes.proved
#print axioms offsetBytes_upto
end Go.Proofs.Ytanfmpkjcoolmaa
