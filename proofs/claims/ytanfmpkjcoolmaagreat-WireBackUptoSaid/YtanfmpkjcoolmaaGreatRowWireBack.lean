/- WireBack: true of every input whose bulk is at most 1048576. Conditions: none but that bound. -/
import Derived.Test.YtanfmpkjcoolmaaGreatFactsZ
import Derived.Test.YtanfmpkjcoolmaaGreatRows
import Derived.Test.YtanfmpkjcoolmaaGreatAbsRZ
import Derived.Test.YtanfmpkjcoolmaaGreatWpA
import Derived.WalkKit
import Derived.ProofKit
import Derived.OpenShut
import Derived.JoinedCond
import Derived.ChangeOld
import Derived.Below
import Derived.Carry
namespace Go.Proofs.YtanfmpkjcoolmaaGreat.wireBack
open Go.ChangeShapes Go.WideShapes Go.ChangeAt Go.RowKit Go.Proofs.YtanfmpkjcoolmaaGreat.Rd Go.Abs Go.Proofs.YtanfmpkjcoolmaaGreat
set_option linter.unusedVariables false

theorem j0 : (Rows.wireBackUptoRow.wf (OpenSpec.ofChange (Rows.OpenSpec.upto Rows.wireBackSpec).bare)) = true := by kernel_rfl
theorem j3 : (Tryz.f3.params.all (Tryz.prog.readableRec ·)) = true := by kernel_rfl
theorem j4 : (namedTie Tryz.prog Rows.wireBackUptoRow.named (Rows.OpenSpec.upto Rows.wireBackSpec).bare.vars) = true := by kernel_rfl
theorem j5 : ((Rows.wireBackUptoRow.stops == [])) = true := by kernel_rfl
theorem j7 : ((Rows.wireBackUptoRow.knobs == [])) = true := by kernel_rfl
theorem j9 : ((Rows.wireBackUptoRow.inPlace == Tryz.prog.inPlace 3)) = true := by kernel_rfl
theorem j10 : ((Rows.wireBackUptoRow.unfollowed == Tryz.prog.unfollowed 3)) = true := by kernel_rfl
theorem j11 : ((Rows.wireBackUptoRow.recurses == Tryz.prog.recurses 3)) = true := by kernel_rfl
theorem j12 : ((Rows.wireBackUptoRow.named == Tryz.prog.varsNamed 3)) = true := by kernel_rfl
theorem j13 : ((Rows.wireBackUptoRow.maps == (Tryz.f3.params.toList ++ (Rows.OpenSpec.upto Rows.wireBackSpec).bare.plain.varTypes Tryz.prog).any (Tryz.prog.mapsRec ·))) = true := by kernel_rfl
theorem j14 : ((Rows.wireBackUptoRow.ifaces == (Tryz.f3.params.toList ++ (Rows.OpenSpec.upto Rows.wireBackSpec).bare.plain.varTypes Tryz.prog).any (Tryz.prog.ifacesRec ·))) = true := by kernel_rfl
theorem j15 : ((Rows.wireBackUptoRow.mapsOut == Tryz.prog.mapsAmong Tryz.f3.resultTypes.toList)) = true := by kernel_rfl
theorem j16 : ((Rows.wireBackUptoRow.loops == (Tryz.f3.params.toList ++ (Rows.OpenSpec.upto Rows.wireBackSpec).bare.plain.varTypes Tryz.prog).any (Tryz.prog.loopsFrom ·))) = true := by kernel_rfl
theorem j17 : ((Rows.wireBackUptoRow.wideKeys == (Tryz.f3.params.toList ++ (Rows.OpenSpec.upto Rows.wireBackSpec).bare.plain.varTypes Tryz.prog ++ Tryz.f3.resultTypes.toList).any (Tryz.prog.wideKeysFrom ·))) = true := by kernel_rfl
theorem j18 : ((Rows.OpenSpec.upto Rows.wireBackSpec).bare.vars.all (Tryz.prog.varReadable ·)) = true := by kernel_rfl
theorem j19 : (Tryz.f3.resultTypes.all (fun t => Tryz.prog.readableRec t && decide (t < Tryz.prog.types.size))) = true := by kernel_rfl
theorem j20 : ((Rows.wireBackUptoRow.ifacesOut == Tryz.f3.resultTypes.toList.any (Tryz.prog.ifacesRec ·))) = true := by kernel_rfl
theorem j21 : ((Rows.wireBackUptoRow.loopsOut == Tryz.f3.resultTypes.toList.any (Tryz.prog.loopsFrom ·))) = true := by kernel_rfl
theorem j22 : ((Rows.wireBackUptoRow.plainKeys == Tryz.prog.plainKeys)) = true := by kernel_rfl
theorem j23 : (Rows.wireBackUptoRow.shortTexts.isNone) = true := by kernel_rfl
theorem j26 : ((Rows.wireBackUptoRow.lifted == Tryz.prog.liftsFinal)) = true := by rw [Facts.lifts]; rfl
theorem j27 : ((Tryz.prog.make == some Rows.wireBackUptoRow.make)) = true := by rw [Facts.made]; rfl
theorem j28 : ((Rows.wireBackUptoRow.kinds == (if Rows.wireBackUptoRow.domain.isEmpty then [] else Tryz.f3.params.toList.map fun t => match Tryz.prog.underlying t with | some (.int k) => some k | _ => none))) = true := by kernel_rfl
theorem j29 : ((Rows.wireBackUptoRow.pinned == Rows.wireBackUptoRow.pinnedBy)) = true := by kernel_rfl
theorem j30 : ((Rows.wireBackUptoRow.veiled == (Tryz.f3.params.toList ++ (Rows.OpenSpec.upto Rows.wireBackSpec).bare.plain.varTypes Tryz.prog ++ Tryz.f3.resultTypes.toList).any (Tryz.prog.veiledRec ·))) = true := by kernel_rfl
theorem j31 : (Rows.wireBackUptoRow.veiledFits Tryz.prog Tryz.f3.params.toList (Tryz.f3.params.toList ++ (Rows.OpenSpec.upto Rows.wireBackSpec).bare.plain.varTypes Tryz.prog ++ Tryz.f3.resultTypes.toList)) = true := by kernel_rfl
set_option maxRecDepth 100000 in
theorem closed : joinedFacts Tryz.prog 3 Tryz.f3 (Rows.OpenSpec.upto Rows.wireBackSpec).bare Rows.wireBackUptoRow = true := (Facts.and2 (Facts.and2 (Facts.and2 (Facts.and2 (Facts.and2 (Facts.and2 (Facts.and2 (Facts.and2 (Facts.and2 (Facts.and2 (Facts.and2 (Facts.and2 (Facts.and2 (Facts.and2 (Facts.and2 (Facts.and2 (Facts.and2 (Facts.and2 (Facts.and2 (Facts.and2 (Facts.and2 (Facts.and2 (Facts.and2 (Facts.and2 (Facts.and2 (Facts.and2 (Facts.and2 (Facts.and2 (Facts.and2 (Facts.and2 (Facts.and2 j0 Facts.laidOut) Facts.rowed) j3) j4) j5) Facts.stops) j7) Facts.stopKnobs) j9) j10) j11) j12) j13) j14) j15) j16) j17) j18) j19) j20) j21) j22) j23) Facts.heard) Facts.enter) j26) j27) j28) j29) j30) j31)
theorem own : ownKnob Tryz.prog.godebug = none := by kernel_rfl
theorem laidOut : laidOutB Tryz.prog = true := Facts.laidOut
def szW (w : Wr) : Nat := (((w.tx.r.map fun _ => 1).sum + 1) + ((w.tx.v.map fun _ => 1).sum + 1)) + (((w.vc.map fun _ => 1).sum + 1) + (((w.tb.map fun t => (t.1.map fun _ => 1).sum + 1).sum + 1) + (((w.en.map fun _ => 1).sum + 1) + ((w.by_.map fun _ => 1).sum + 1))))
theorem len_sum {α : Type} (l : List α) : l.length = (l.map fun _ => 1).sum := by induction l with | nil => rfl | cons a l ih => simp [ih]; omega
theorem len_one {α : Type} {f : α → Nat} (h : ∀ a, 1 ≤ f a) (l : List α) : l.length ≤ (l.map f).sum := by induction l with | nil => exact Nat.le_refl _ | cons a l ih => have := h a; simp; omega
theorem mem_sum {α : Type} {f : α → Nat} {l : List α} {a : α} (h : a ∈ l) : f a ≤ (l.map f).sum := by induction l with | nil => cases h | cons b l ih => (rcases List.mem_cons.1 h with rfl | h; simp; have := ih h; simp; omega)
theorem sz_ok {H : Type} {d : DataW H} {w : Wr} (hb : ∀ x ∈ w.by_, okI .u8 x) (h : szW w ≤ Rows.uptoBulk d) (hn : Rows.uptoBulk d ≤ 1048576) : w.Sz := by
 unfold szW at h
 have e1 := len_sum w.tx.r
 have e2 := len_sum w.tx.v
 have e3 := len_sum w.vc
 have e4 := len_sum w.en
 have e5 := len_sum w.by_
 have e6 := len_one (f := fun t : List Q4 × Int => (t.1.map fun _ => 1).sum + 1) (fun t => Nat.le_add_left _ _) w.tb
 refine ⟨by omega, by omega, by omega, by omega, fun t ht => ?_, by omega, by show _ ≤ _; omega, hb, by omega⟩
 have e7 := mem_sum (f := fun t : List Q4 × Int => (t.1.map fun _ => 1).sum + 1) ht
 have e8 := len_sum t.1
 try dsimp only at e7
 omega
theorem in_ok {H : Type} {d : DataW H} {w : Wr} (hb : (∀ x ∈ w.by_, okI .u8 x) ∧ (∀ n ∈ w.tx.r, okI .i64 n.1 ∧ okI .i64 n.2) ∧ (∀ n ∈ w.en, okI .i64 n.2.2.1 ∧ okI .i64 n.2.2.2)) (h : szW w ≤ Rows.uptoBulk d) (hn : Rows.uptoBulk d ≤ 1048576) : w.In :=
  { sz_ok hb.1 h hn with rI := hb.2.1, eI := hb.2.2 }
theorem byt_ok_ {b : List Int} (h : ∀ x ∈ b, okI .u8 x) : Byt b := h
theorem l40_ {H : Type} {d : DataW H} {l : List Int} (h : (l.map fun _ => 1).sum + 1 ≤ Rows.uptoBulk d) (hn : Rows.uptoBulk d ≤ 1048576) : L40 l := by have := len_sum l; show _ ≤ _; omega
theorem ty2 : Ty Tryz.prog 2 (fun n : Int => [.val (.int .i64 n)]) (okI .i64) (fun _ => 1) := Ty.int Tryz.underlying2 (by kernel_rfl)
theorem ty3 : Ty Tryz.prog 3 (fun n : Int => [.val (.int .i64 n)]) (okI .i64) (fun _ => 1) := Ty.int Tryz.underlying3 (by kernel_rfl)
theorem ty4 : Ty Tryz.prog 4 (fun b : Bool => [.val (.bool b)]) (fun _ => True) (fun _ => 1) := Ty.bool Tryz.underlying4 (by kernel_rfl)
theorem ty22 : Ty Tryz.prog 22 (fun n : Int => [.val (.int .i64 n)]) (okI .i64) (fun _ => 1) := Ty.int Tryz.underlying22 (by kernel_rfl)
theorem ty44 : Ty Tryz.prog 44 (q2 : (Int × Int) → List D) (fun n => okI .i64 n.1 ∧ okI .i64 n.2) (fun _ => 1) :=
  (Ty.structN (P := Tryz.prog) (t := 44) Tryz.underlying44 (by kernel_rfl) (Fs.cons (n := 1) ty2 rfl (by kernel_rfl) (Fs.cons (n := 1) ty2 rfl (by kernel_rfl) (Fs.nil 2)))).map (fun p => (⟨p.1, p.2.1⟩ : (Int × Int))) (fun a => (a.1, a.2, ())) (fun _ => rfl) (fun _ => rfl) (fun p h => ⟨h.1, h.2.1⟩) (fun _ => by first | omega | (dsimp only; omega))
theorem ty46 : Ty Tryz.prog 46 (q4 : Q4 → List D) (fun n => okI .i64 n.2.2.1 ∧ okI .i64 n.2.2.2) (fun _ => 1) :=
  (Ty.structN (P := Tryz.prog) (t := 46) Tryz.underlying46 (by kernel_rfl) (Fs.cons (n := 1) ty2 rfl (by kernel_rfl) (Fs.cons (n := 1) ty3 rfl (by kernel_rfl) (Fs.cons (n := 2) ty44 rfl (by kernel_rfl) (Fs.nil 4))))).map (fun p => (⟨p.1, p.2.1, p.2.2.1.1, p.2.2.1.2⟩ : Q4)) (fun a => (a.1, a.2.1, (a.2.2.1, a.2.2.2), ())) (fun _ => rfl) (fun _ => rfl) (fun p h => h.2.2.1) (fun _ => by first | omega | (dsimp only; omega))
theorem ty51 : Ty Tryz.prog 51 (q4 : Q4 → List D) (fun _ => True) (fun _ => 1) :=
  (Ty.structN (P := Tryz.prog) (t := 51) Tryz.underlying51 (by kernel_rfl) (Fs.cons (n := 1) ty2 rfl (by kernel_rfl) (Fs.cons (n := 1) ty3 rfl (by kernel_rfl) (Fs.cons (n := 1) ty2 rfl (by kernel_rfl) (Fs.cons (n := 1) ty2 rfl (by kernel_rfl) (Fs.nil 4)))))).map (fun p => (⟨p.1, p.2.1, p.2.2.1, p.2.2.2.1⟩ : Q4)) (fun a => (a.1, a.2.1, a.2.2.1, a.2.2.2, ())) (fun _ => rfl) (fun _ => rfl) (fun p h => trivial) (fun _ => by first | omega | (dsimp only; omega))
theorem ty47 : Ty Tryz.prog 47 (fun l : List Q4 => [.sl none (l.map q4) .ro]) (fun l => ∀ a ∈ l, (fun _ => True) a) (fun l => (l.map (fun _ => 1)).sum + 1) := Ty.slice Tryz.underlying47 (by kernel_rfl) ty51
theorem ty30 : Ty Tryz.prog 30 (fun l : List Q4 => [.sl none (l.map q4) .ro]) (fun l => ∀ a ∈ l, (fun n => okI .i64 n.2.2.1 ∧ okI .i64 n.2.2.2) a) (fun l => (l.map (fun _ => 1)).sum + 1) := Ty.slice Tryz.underlying30 (by kernel_rfl) ty46
theorem ty23 : Ty Tryz.prog 23 (fun l : List (Int × Int) => [.sl none (l.map q2) .ro]) (fun l => ∀ a ∈ l, (fun n => okI .i64 n.1 ∧ okI .i64 n.2) a) (fun l => (l.map (fun _ => 1)).sum + 1) := Ty.slice Tryz.underlying23 (by kernel_rfl) ty44
theorem ty49 : Ty Tryz.prog 49 (qt : (List Q4 × Int) → List D) (fun _ => True) (fun t => (t.1.map fun _ => 1).sum + 1) :=
  (Ty.structN (P := Tryz.prog) (t := 49) Tryz.underlying49 (by kernel_rfl) (Fs.cons (n := 1) ty47 rfl (by kernel_rfl) (Fs.cons (n := 1) ty2 rfl (by kernel_rfl) (Fs.nil 2)))).map (fun p => (⟨p.1, p.2.1⟩ : (List Q4 × Int))) (fun a => (a.1, a.2, ())) (fun _ => rfl) (fun _ => rfl) (fun p h => trivial) (fun _ => by first | omega | (dsimp only; omega))
theorem ty29 : Ty Tryz.prog 29 (fun l : List (List Q4 × Int) => [.sl none (l.map qt) .ro]) (fun l => ∀ a ∈ l, (fun _ => True) a) (fun l => (l.map (fun t => (t.1.map fun _ => 1).sum + 1)).sum + 1) := Ty.slice Tryz.underlying29 (by kernel_rfl) ty49
theorem ty24 : Ty Tryz.prog 24 (fun l : List Int => [.sl none (l.map (fun n => [.val (.int .i64 n)])) .ro]) (fun l => ∀ a ∈ l, (okI .i64) a) (fun l => (l.map (fun _ => 1)).sum + 1) := Ty.slice Tryz.underlying24 (by kernel_rfl) ty2
theorem ty5 : Ty Tryz.prog 5 (fun n : Int => [.val (.int .u8 n)]) (okI .u8) (fun _ => 1) := Ty.int Tryz.underlying5 (by kernel_rfl)
theorem ty31 : Ty Tryz.prog 31 (fun l : List Int => [.sl none (l.map (fun n => [.val (.int .u8 n)])) .ro]) (fun l => ∀ a ∈ l, (okI .u8) a) (fun l => (l.map (fun _ => 1)).sum + 1) := Ty.slice Tryz.underlying31 (by kernel_rfl) ty5
theorem ty26 : Ty Tryz.prog 26 ((fun t => txz t) : Tx → List D) (fun t => ∀ n ∈ t.r, okI .i64 n.1 ∧ okI .i64 n.2) (fun t => ((t.r.map fun _ => 1).sum + 1) + ((t.v.map fun _ => 1).sum + 1)) :=
  (Ty.structN (P := Tryz.prog) (t := 26) Tryz.underlying26 (by kernel_rfl) (Fs.cons (n := 1) ty2 rfl (by kernel_rfl) (Fs.cons (n := 1) ty2 rfl (by kernel_rfl) (Fs.cons (n := 1) ty2 rfl (by kernel_rfl) (Fs.cons (n := 1) ty23 rfl (by kernel_rfl) (Fs.cons (n := 1) ty24 rfl (by kernel_rfl) (Fs.nil 5))))))).map (fun p => (⟨p.1, p.2.1, p.2.2.1, p.2.2.2.1, p.2.2.2.2.1⟩ : Tx)) (fun a => (a.e, a.i, a.b, a.r, a.v, ())) (fun _ => rfl) (fun _ => rfl) (fun p h => h.2.2.2.1) (fun _ => by first | omega | (dsimp only; omega))
theorem ty28 : Ty Tryz.prog 28 (q2 : (Int × Int) → List D) (fun _ => True) (fun _ => 1) :=
  (Ty.structN (P := Tryz.prog) (t := 28) Tryz.underlying28 (by kernel_rfl) (Fs.cons (n := 1) ty2 rfl (by kernel_rfl) (Fs.cons (n := 1) ty2 rfl (by kernel_rfl) (Fs.nil 2)))).map (fun p => (⟨p.1, p.2.1⟩ : (Int × Int))) (fun a => (a.1, a.2, ())) (fun _ => rfl) (fun _ => rfl) (fun p h => trivial) (fun _ => by first | omega | (dsimp only; omega))
theorem ty33 : Ty Tryz.prog 33 ((fun w => wz w) : Wr → List D) (fun w => (∀ x ∈ w.by_, okI .u8 x) ∧ (∀ n ∈ w.tx.r, okI .i64 n.1 ∧ okI .i64 n.2) ∧ (∀ n ∈ w.en, okI .i64 n.2.2.1 ∧ okI .i64 n.2.2.2)) (fun w => szW w) :=
  (Ty.structN (P := Tryz.prog) (t := 33) Tryz.underlying33 (by kernel_rfl) (Fs.cons (n := 1) ty3 rfl (by kernel_rfl) (Fs.cons (n := 1) ty3 rfl (by kernel_rfl) (Fs.cons (n := 1) ty2 rfl (by kernel_rfl) (Fs.cons (n := 1) ty2 rfl (by kernel_rfl) (Fs.cons (n := 1) ty3 rfl (by kernel_rfl) (Fs.cons (n := 1) ty3 rfl (by kernel_rfl) (Fs.cons (n := 1) ty4 rfl (by kernel_rfl) (Fs.cons (n := 1) ty22 rfl (by kernel_rfl) (Fs.cons (n := 5) ty26 rfl (by kernel_rfl) (Fs.cons (n := 2) ty28 rfl (by kernel_rfl) (Fs.cons (n := 1) ty2 rfl (by kernel_rfl) (Fs.cons (n := 1) ty24 rfl (by kernel_rfl) (Fs.cons (n := 1) ty2 rfl (by kernel_rfl) (Fs.cons (n := 1) ty29 rfl (by kernel_rfl) (Fs.cons (n := 1) ty3 rfl (by kernel_rfl) (Fs.cons (n := 1) ty2 rfl (by kernel_rfl) (Fs.cons (n := 1) ty30 rfl (by kernel_rfl) (Fs.cons (n := 1) ty3 rfl (by kernel_rfl) (Fs.cons (n := 1) ty31 rfl (by kernel_rfl) (Fs.nil 24))))))))))))))))))))).map (fun p => (⟨p.1, p.2.1, p.2.2.1, p.2.2.2.1, p.2.2.2.2.1, p.2.2.2.2.2.1, p.2.2.2.2.2.2.1, p.2.2.2.2.2.2.2.1, p.2.2.2.2.2.2.2.2.1, p.2.2.2.2.2.2.2.2.2.1.1, p.2.2.2.2.2.2.2.2.2.1.2, p.2.2.2.2.2.2.2.2.2.2.1, p.2.2.2.2.2.2.2.2.2.2.2.1, p.2.2.2.2.2.2.2.2.2.2.2.2.1, p.2.2.2.2.2.2.2.2.2.2.2.2.2.1, p.2.2.2.2.2.2.2.2.2.2.2.2.2.2.1, p.2.2.2.2.2.2.2.2.2.2.2.2.2.2.2.1, p.2.2.2.2.2.2.2.2.2.2.2.2.2.2.2.2.1, p.2.2.2.2.2.2.2.2.2.2.2.2.2.2.2.2.2.1, p.2.2.2.2.2.2.2.2.2.2.2.2.2.2.2.2.2.2.1⟩ : Wr)) (fun a => (a.kd, a.rg, a.rq, a.ep, a.to, a.dd, a.fl, a.er, a.tx, (a.ke, a.ki), a.ln, a.vc, a.nm, a.tb, a.pt, a.ps, a.en, a.ch, a.by_, ())) (fun _ => rfl) (fun _ => rfl) (fun p h => ⟨h.2.2.2.2.2.2.2.2.2.2.2.2.2.2.2.2.2.2.1, h.2.2.2.2.2.2.2.2.1, h.2.2.2.2.2.2.2.2.2.2.2.2.2.2.2.2.1⟩) (fun _ => by unfold szW; first | omega | (dsimp only; omega))
set_option maxRecDepth 100000 in
theorem contract (H : Type) (enc : TypeId × Value → H) (W : World) (base : Nat) (args : Array Value) (ds gs : List (DataW H)) (before : List MemPlace)
 (hval : ∀ (j : Nat) t v, Tryz.f3.params[j]? = some t → args[j]? = some v → Value.okWide Tryz.prog W .any base t v)
 (hW : DataW.Whole enc Tryz.prog Tryz.f3.params.toList Rows.wireBackSpec.vars false W args.toList ds gs before) (hk : Rows.uptoSmall H (ds ++ gs) = true) :
 Calls Tryz.prog 3 args W fun e W' => ∃ v, e = .returned v ∧ Rows.wireBackSpec.post enc Tryz.prog Tryz.f3 false true false false W args v W' := by
 have hW' := hW
 obtain ⟨p, q, hA0, hV, rfl, hfz, hnd⟩ := hW
 have hA : DataW.TrodAll enc Tryz.prog W 0 (fun _ => true) true Tryz.f3.params.toList args.toList ds p := hA0
 rw [Tryz.params3] at hA hval
 obtain ⟨v0, vs0, d0, ds0, p0, q0, hargs, rfl, rfl, h0, r0⟩ := trodAll_cons hA
 obtain ⟨v1, vs1, d1, ds1, p1, q1, rfl, rfl, rfl, h1, r1⟩ := trodAll_cons r0
 obtain ⟨v2, vs2, d2, ds2, p2, q2, rfl, rfl, rfl, h2, r2⟩ := trodAll_cons r1
 obtain ⟨rfl, rfl, rfl⟩ := trodAll_nil r2
 obtain rfl : args = #[v0, v1, v2] := by cases args; simp_all
 obtain ⟨rfl, rfl⟩ := trodVars_none hV
 clear hA0
 simp only [List.append_nil] at hW' hk
 have hb : Rows.uptoBulkAll [d0, d1, d2] ≤ 1048576 := of_decide_eq_true hk
 simp only [Rows.uptoBulkAll] at hb
 have k0 := h0
 have lt0 : ∀ x ∈ p0, x.block < W.heap.size := by obtain ⟨m, hm⟩ := k0; exact DataW.trod_lt m _ _ _ hm
 obtain ⟨cs0, rfl, cn0⟩ := okWide_struct Tryz.underlying33 (hval 0 33 v0 rfl rfl)
 obtain ⟨f0, hf0⟩ := h0
 obtain ⟨a, ok0, cr0, sz0⟩ := ty33.read hf0
 have k1 := h1
 have lt1 : ∀ x ∈ p1, x.block < W.heap.size := by obtain ⟨m, hm⟩ := k1; exact DataW.trod_lt m _ _ _ hm
 obtain ⟨cs1, rfl, cn1⟩ := okWide_struct Tryz.underlying33 (hval 1 33 v1 rfl rfl)
 obtain ⟨f1, hf1⟩ := h1
 obtain ⟨b, ok1, cr1, sz1⟩ := ty33.read hf1
 have k2 := h2
 have lt2 : ∀ x ∈ p2, x.block < W.heap.size := by obtain ⟨m, hm⟩ := k2; exact DataW.trod_lt m _ _ _ hm
 obtain ⟨a2, len2, cap2, rfl⟩ := okWide_slice Tryz.underlying31 (hval 2 31 v2 rfl rfl)
 obtain ⟨f2, hf2⟩ := h2
 obtain ⟨pb, ok2, cr2, sz2⟩ := ty31.read hf2
 refine (law_calls (Wp.Back_calls a b pb (in_ok ok0 sz0 (by omega)) (in_ok ok1 sz1 (by omega)) (byt_ok_ ok2) (l40_ sz2 (by omega))) (CR.cons (arg_agg cr0) (CR.cons (arg_agg cr1) (CR.cons (arg_one cr2) CR.nil)))).mono fun e W' ⟨he, bel⟩ => ?_
 subst he
 exact ⟨_, rfl, _, _, _, [], _, [], hW', trodAll_mk1 (shut_bool Tryz.underlying4 _), (trodAll_cons_mk (Below.trod laidOut (by kernel_rfl) (of_decide_eq_true (by kernel_rfl)) k0 bel lt0) (trodAll_cons_mk (Below.trod laidOut (by kernel_rfl) (of_decide_eq_true (by kernel_rfl)) k1 bel lt1) (trodAll_cons_mk (Below.trod laidOut (by kernel_rfl) (of_decide_eq_true (by kernel_rfl)) k2 bel lt2) trodAll_mk0))), rfl, bel.frame _, fun h => by cases h⟩

set_option maxRecDepth 100000 in
theorem lifted (os : Os) (started : os.Started) (H : Type) (enc : TypeId × Value → H) (F : Stop.Interp) :
 ReturnsInHanded {} Tryz.checked os 3 .any ((Rows.OpenSpec.upto Rows.wireBackSpec).pre6 enc Tryz.prog Tryz.f3 Rows.wireBackUptoRow.domain false) (((Rows.OpenSpec.upto Rows.wireBackSpec).at F).post enc Tryz.prog Tryz.f3 false true false false) := by
 refine returnsInHanded_of_cond (C := Tryz.checked) (s := Rows.OpenSpec.upto Rows.wireBackSpec) (k := Rows.uptoSmall) rfl own started (by kernel_rfl) Tryz.func3
  (OpenSpec.witness (enc := enc) (C := Tryz.checked) (s := Rows.OpenSpec.upto Rows.wireBackSpec) (k := Rows.uptoSmall) rfl false ⟨#[], #[.agg #[.int .i64 0, .int .i64 0, .int .i64 0, .int .i64 0, .int .i64 0, .int .i64 0, .bool false, .int .i64 0, .int .i64 0, .int .i64 0, .int .i64 0, .slice none 0 0, .slice none 0 0, .int .i64 0, .int .i64 0, .int .i64 0, .slice none 0 0, .int .i64 0, .slice none 0 0, .int .i64 0, .int .i64 0, .slice none 0 0, .int .i64 0, .slice none 0 0], .agg #[.int .i64 0, .int .i64 0, .int .i64 0, .int .i64 0, .int .i64 0, .int .i64 0, .bool false, .int .i64 0, .int .i64 0, .int .i64 0, .int .i64 0, .slice none 0 0, .slice none 0 0, .int .i64 0, .int .i64 0, .int .i64 0, .slice none 0 0, .int .i64 0, .slice none 0 0, .int .i64 0, .int .i64 0, .slice none 0 0, .int .i64 0, .slice none 0 0], .slice none 0 0], []⟩ 8 (by kernel_rfl) (by kernel_rfl) (by kernel_rfl)
   (x := ([.agg [.lit (.int .i64 0), .lit (.int .i64 0), .lit (.int .i64 0), .lit (.int .i64 0), .lit (.int .i64 0), .lit (.int .i64 0), .lit (.bool false), .lit (.int .i64 0), .agg [.lit (.int .i64 0), .lit (.int .i64 0), .lit (.int .i64 0), .nil, .nil], .agg [.lit (.int .i64 0), .lit (.int .i64 0)], .lit (.int .i64 0), .nil, .lit (.int .i64 0), .nil, .lit (.int .i64 0), .lit (.int .i64 0), .nil, .lit (.int .i64 0), .nil], .agg [.lit (.int .i64 0), .lit (.int .i64 0), .lit (.int .i64 0), .lit (.int .i64 0), .lit (.int .i64 0), .lit (.int .i64 0), .lit (.bool false), .lit (.int .i64 0), .agg [.lit (.int .i64 0), .lit (.int .i64 0), .lit (.int .i64 0), .nil, .nil], .agg [.lit (.int .i64 0), .lit (.int .i64 0)], .lit (.int .i64 0), .nil, .lit (.int .i64 0), .nil, .lit (.int .i64 0), .lit (.int .i64 0), .nil, .lit (.int .i64 0), .nil], .nil], [], [])) (by kernel_rfl) rfl (by kernel_rfl)) ?_
 intro W base args ds gs before hval hW _ hk _
 exact contract H enc W base args ds gs before hval hW hk

theorem over : Rows.wireBackUptoRow.holds Tryz.pinned (Rows.OpenSpec.upto Rows.wireBackSpec) :=
  OpenClaim.holds_of_cond 3 Tryz.f3 rfl rfl rfl rfl rfl rfl rfl ⟨rfl, rfl, rfl, rfl, rfl⟩ rfl rfl rfl rfl rfl (by kernel_rfl) Tryz.func3 closed
    (of_decide_eq_true (by kernel_rfl)) (by unfold Func.isWrapper; first | (rw [if_pos (by decide +kernel)]; kernel_rfl) | (rw [if_neg (by decide +kernel)]; exact ⟨rfl, rfl⟩))
    (fun os started H enc _ F => lifted os started H enc F)

theorem proved : Rows.WireBackUptoSaid := over
end Go.Proofs.YtanfmpkjcoolmaaGreat.wireBack
namespace Go.Proofs.YtanfmpkjcoolmaaGreat
/-- The statement, under a short name, for the claim. -/
theorem wireBack_upto : Rows.WireBackUptoSaid := wireBack.proved
#print axioms wireBack_upto
end Go.Proofs.YtanfmpkjcoolmaaGreat
