/-
  No cell of these rows narrows 'for every input' (looked for: loops, veiled, ifaces, maps, wideKeys, modest, calm, conditions, laid).
  DERIVED. THE GIVEN ROWS OF THIS SEAT. 31 by the template 'for every input the law returns true; each argument reads behind the call as it read before'; 0 by the template 'total and deterministic' (their statements: YtanfmpkjcoolmaaTotals.lean).
  GIVEN WITH THE SEED: the statements are not yours to turn. If you find one false, say at which input.
  Laid BY PROGRAM, IN A SANDBOX (cutbox-rows.mjs): the forced cells as the released guide's own fill.sh prints them over the translation 79197212ee53ecdd… (all of the seat's roots in one cut). By AI agents, Wed Nov 11 2026. No macro, syntax, notation, axiom, sorry.
-/
import Derived.Test.YtanfmpkjcoolmaaChecked
import GoSem.Claim
import GoSem.ClaimJoined
import GoSem.ClaimMapViews
import Derived.JoinedTies
import Derived.KernelRfl
namespace Go.Proofs.Ytanfmpkjcoolmaa
/- THE CELL 'sum', in the pinned program and in every row, IS THE sha256 OF THE DUMP (.gsa) THAT YtanfmpkjcoolmaaProg.lean LOADS. Nothing in Lean hashes anything: it is a label: what it is worth is what the hold of that sum in a sandbox is worth. -/
noncomputable def Try.pinned : Pinned := { name := "ytanfmpkjcoolmaa", sum := "79197212ee53ecdddc33f2677ca86999d58de871027e6f667fed9b8e4b113c32", checked := Try.checked }
namespace Rows
def none {H : Type} : Left H := { results := [], args := [] }

/-- 'pontoonlaw06.EventBytes': WHATEVER THE INPUT: true; the input reads as it did. -/
def eventBytesSpec : ChangeSpec := { name := "eventBytes", fn := fun _ => fun
  | [d1, d2, d3] => { results := [.lit (.bool true)], args := [d1, d2, d3] }
  | _ => none }
def eventBytesRow : OpenClaim := { program := "ytanfmpkjcoolmaa", sum := "79197212ee53ecdddc33f2677ca86999d58de871027e6f667fed9b8e4b113c32", func := "pontoon/pontoonlaw06.EventBytes", spec := "eventBytes", apart := false }
def EventBytesSaid : Prop := eventBytesRow.holds Try.pinned (OpenSpec.ofChange eventBytesSpec)

/-- ITS FALSE NEIGHBOUR: 'it returns false'. Refute it at one input. -/
def eventBytesWrong : ChangeSpec := { name := "eventBytes", fn := fun _ => fun
  | [d1, d2, d3] => { results := [.lit (.bool false)], args := [d1, d2, d3] }
  | _ => none }
def EventBytesWrongFalsely : Prop := eventBytesRow.holds Try.pinned (OpenSpec.ofChange eventBytesWrong)

/-- 'pontoonlaw13.LeaseDoes': WHATEVER THE INPUT: true; the input reads as it did. -/
def leaseDoesSpec : ChangeSpec := { name := "leaseDoes", fn := fun _ => fun
  | [d1, d2] => { results := [.lit (.bool true)], args := [d1, d2] }
  | _ => none }
def leaseDoesRow : OpenClaim := { program := "ytanfmpkjcoolmaa", sum := "79197212ee53ecdddc33f2677ca86999d58de871027e6f667fed9b8e4b113c32", func := "pontoon/pontoonlaw13.LeaseDoes", spec := "leaseDoes", apart := false }
def LeaseDoesSaid : Prop := leaseDoesRow.holds Try.pinned (OpenSpec.ofChange leaseDoesSpec)

/-- ITS FALSE NEIGHBOUR: 'it returns false'. Refute it at one input. -/
def leaseDoesWrong : ChangeSpec := { name := "leaseDoes", fn := fun _ => fun
  | [d1, d2] => { results := [.lit (.bool false)], args := [d1, d2] }
  | _ => none }
def LeaseDoesWrongFalsely : Prop := leaseDoesRow.holds Try.pinned (OpenSpec.ofChange leaseDoesWrong)

/-- 'pontoonlaw13.LeaseEpochs': WHATEVER THE INPUT: true; the input reads as it did. -/
def leaseEpochsSpec : ChangeSpec := { name := "leaseEpochs", fn := fun _ => fun
  | [d] => { results := [.lit (.bool true)], args := [d] }
  | _ => none }
def leaseEpochsRow : OpenClaim := { program := "ytanfmpkjcoolmaa", sum := "79197212ee53ecdddc33f2677ca86999d58de871027e6f667fed9b8e4b113c32", func := "pontoon/pontoonlaw13.LeaseEpochs", spec := "leaseEpochs", apart := false }
def LeaseEpochsSaid : Prop := leaseEpochsRow.holds Try.pinned (OpenSpec.ofChange leaseEpochsSpec)

/-- ITS FALSE NEIGHBOUR: 'it returns false'. Refute it at one input. -/
def leaseEpochsWrong : ChangeSpec := { name := "leaseEpochs", fn := fun _ => fun
  | [d] => { results := [.lit (.bool false)], args := [d] }
  | _ => none }
def LeaseEpochsWrongFalsely : Prop := leaseEpochsRow.holds Try.pinned (OpenSpec.ofChange leaseEpochsWrong)

/-- 'pontoonlaw13.LeaseNot': WHATEVER THE INPUT: true; the input reads as it did. -/
def leaseNotSpec : ChangeSpec := { name := "leaseNot", fn := fun _ => fun
  | [d] => { results := [.lit (.bool true)], args := [d] }
  | _ => none }
def leaseNotRow : OpenClaim := { program := "ytanfmpkjcoolmaa", sum := "79197212ee53ecdddc33f2677ca86999d58de871027e6f667fed9b8e4b113c32", func := "pontoon/pontoonlaw13.LeaseNot", spec := "leaseNot", apart := false }
def LeaseNotSaid : Prop := leaseNotRow.holds Try.pinned (OpenSpec.ofChange leaseNotSpec)

/-- ITS FALSE NEIGHBOUR: 'it returns false'. Refute it at one input. -/
def leaseNotWrong : ChangeSpec := { name := "leaseNot", fn := fun _ => fun
  | [d] => { results := [.lit (.bool false)], args := [d] }
  | _ => none }
def LeaseNotWrongFalsely : Prop := leaseNotRow.holds Try.pinned (OpenSpec.ofChange leaseNotWrong)

/-- 'pontoonlaw21.MirrorThere': WHATEVER THE INPUT: true; the input reads as it did. -/
def mirrorThereSpec : ChangeSpec := { name := "mirrorThere", fn := fun _ => fun
  | [d1, d2] => { results := [.lit (.bool true)], args := [d1, d2] }
  | _ => none }
def mirrorThereRow : OpenClaim := { program := "ytanfmpkjcoolmaa", sum := "79197212ee53ecdddc33f2677ca86999d58de871027e6f667fed9b8e4b113c32", func := "pontoon/pontoonlaw21.MirrorThere", spec := "mirrorThere", apart := false }
def MirrorThereSaid : Prop := mirrorThereRow.holds Try.pinned (OpenSpec.ofChange mirrorThereSpec)

/-- ITS FALSE NEIGHBOUR: 'it returns false'. Refute it at one input. -/
def mirrorThereWrong : ChangeSpec := { name := "mirrorThere", fn := fun _ => fun
  | [d1, d2] => { results := [.lit (.bool false)], args := [d1, d2] }
  | _ => none }
def MirrorThereWrongFalsely : Prop := mirrorThereRow.holds Try.pinned (OpenSpec.ofChange mirrorThereWrong)

/-- 'pontoonlaw21.MirrorKnows': WHATEVER THE INPUT: true; the input reads as it did. -/
def mirrorKnowsSpec : ChangeSpec := { name := "mirrorKnows", fn := fun _ => fun
  | [d1, d2] => { results := [.lit (.bool true)], args := [d1, d2] }
  | _ => none }
def mirrorKnowsRow : OpenClaim := { program := "ytanfmpkjcoolmaa", sum := "79197212ee53ecdddc33f2677ca86999d58de871027e6f667fed9b8e4b113c32", func := "pontoon/pontoonlaw21.MirrorKnows", spec := "mirrorKnows", apart := false }
def MirrorKnowsSaid : Prop := mirrorKnowsRow.holds Try.pinned (OpenSpec.ofChange mirrorKnowsSpec)

/-- ITS FALSE NEIGHBOUR: 'it returns false'. Refute it at one input. -/
def mirrorKnowsWrong : ChangeSpec := { name := "mirrorKnows", fn := fun _ => fun
  | [d1, d2] => { results := [.lit (.bool false)], args := [d1, d2] }
  | _ => none }
def MirrorKnowsWrongFalsely : Prop := mirrorKnowsRow.holds Try.pinned (OpenSpec.ofChange mirrorKnowsWrong)

/-- 'pontoonlaw01.PackPuts': WHATEVER THE INPUT: true; the input reads as it did. -/
def packPutsSpec : ChangeSpec := { name := "packPuts", fn := fun _ => fun
  | [d1, d2, d3] => { results := [.lit (.bool true)], args := [d1, d2, d3] }
  | _ => none }
def packPutsRow : OpenClaim := { program := "ytanfmpkjcoolmaa", sum := "79197212ee53ecdddc33f2677ca86999d58de871027e6f667fed9b8e4b113c32", func := "pontoon/pontoonlaw01.PackPuts", spec := "packPuts", apart := false }
def PackPutsSaid : Prop := packPutsRow.holds Try.pinned (OpenSpec.ofChange packPutsSpec)

/-- ITS FALSE NEIGHBOUR: 'it returns false'. Refute it at one input. -/
def packPutsWrong : ChangeSpec := { name := "packPuts", fn := fun _ => fun
  | [d1, d2, d3] => { results := [.lit (.bool false)], args := [d1, d2, d3] }
  | _ => none }
def PackPutsWrongFalsely : Prop := packPutsRow.holds Try.pinned (OpenSpec.ofChange packPutsWrong)

/-- 'pontoonlaw06.EventLeaves': WHATEVER THE INPUT: true; the input reads as it did. -/
def eventLeavesSpec : ChangeSpec := { name := "eventLeaves", fn := fun _ => fun
  | [d1, d2] => { results := [.lit (.bool true)], args := [d1, d2] }
  | _ => none }
def eventLeavesRow : OpenClaim := { program := "ytanfmpkjcoolmaa", sum := "79197212ee53ecdddc33f2677ca86999d58de871027e6f667fed9b8e4b113c32", func := "pontoon/pontoonlaw06.EventLeaves", spec := "eventLeaves", unfollowed := true, recurses := true, apart := false }
def EventLeavesSaid : Prop := eventLeavesRow.holds Try.pinned (OpenSpec.ofChange eventLeavesSpec)

/-- ITS FALSE NEIGHBOUR: 'it returns false'. Refute it at one input. -/
def eventLeavesWrong : ChangeSpec := { name := "eventLeaves", fn := fun _ => fun
  | [d1, d2] => { results := [.lit (.bool false)], args := [d1, d2] }
  | _ => none }
def EventLeavesWrongFalsely : Prop := eventLeavesRow.holds Try.pinned (OpenSpec.ofChange eventLeavesWrong)

/-- 'pontoonlaw01.PackRises': WHATEVER THE INPUT: true; the input reads as it did. -/
def packRisesSpec : ChangeSpec := { name := "packRises", fn := fun _ => fun
  | [d1, d2] => { results := [.lit (.bool true)], args := [d1, d2] }
  | _ => none }
def packRisesRow : OpenClaim := { program := "ytanfmpkjcoolmaa", sum := "79197212ee53ecdddc33f2677ca86999d58de871027e6f667fed9b8e4b113c32", func := "pontoon/pontoonlaw01.PackRises", spec := "packRises", inPlace := ["internal/bytealg.Compare"], apart := false }
def PackRisesSaid : Prop := packRisesRow.holds Try.pinned (OpenSpec.ofChange packRisesSpec)

/-- ITS FALSE NEIGHBOUR: 'it returns false'. Refute it at one input. -/
def packRisesWrong : ChangeSpec := { name := "packRises", fn := fun _ => fun
  | [d1, d2] => { results := [.lit (.bool false)], args := [d1, d2] }
  | _ => none }
def PackRisesWrongFalsely : Prop := packRisesRow.holds Try.pinned (OpenSpec.ofChange packRisesWrong)

/-- 'pontoonlaw01.PackBack': WHATEVER THE INPUT: true; the input reads as it did. -/
def packBackSpec : ChangeSpec := { name := "packBack", fn := fun _ => fun
  | [d1, d2, d3] => { results := [.lit (.bool true)], args := [d1, d2, d3] }
  | _ => none }
def packBackRow : OpenClaim := { program := "ytanfmpkjcoolmaa", sum := "79197212ee53ecdddc33f2677ca86999d58de871027e6f667fed9b8e4b113c32", func := "pontoon/pontoonlaw01.PackBack", spec := "packBack", apart := false }
def PackBackSaid : Prop := packBackRow.holds Try.pinned (OpenSpec.ofChange packBackSpec)

/-- ITS FALSE NEIGHBOUR: 'it returns false'. Refute it at one input. -/
def packBackWrong : ChangeSpec := { name := "packBack", fn := fun _ => fun
  | [d1, d2, d3] => { results := [.lit (.bool false)], args := [d1, d2, d3] }
  | _ => none }
def PackBackWrongFalsely : Prop := packBackRow.holds Try.pinned (OpenSpec.ofChange packBackWrong)

/-- 'pontoonlaw01.PackReads': WHATEVER THE INPUT: true; the input reads as it did. -/
def packReadsSpec : ChangeSpec := { name := "packReads", fn := fun _ => fun
  | [d1, d2] => { results := [.lit (.bool true)], args := [d1, d2] }
  | _ => none }
def packReadsRow : OpenClaim := { program := "ytanfmpkjcoolmaa", sum := "79197212ee53ecdddc33f2677ca86999d58de871027e6f667fed9b8e4b113c32", func := "pontoon/pontoonlaw01.PackReads", spec := "packReads", apart := false }
def PackReadsSaid : Prop := packReadsRow.holds Try.pinned (OpenSpec.ofChange packReadsSpec)

/-- ITS FALSE NEIGHBOUR: 'it returns false'. Refute it at one input. -/
def packReadsWrong : ChangeSpec := { name := "packReads", fn := fun _ => fun
  | [d1, d2] => { results := [.lit (.bool false)], args := [d1, d2] }
  | _ => none }
def PackReadsWrongFalsely : Prop := packReadsRow.holds Try.pinned (OpenSpec.ofChange packReadsWrong)

/-- 'pontoonlaw01.PackNone': WHATEVER THE INPUT: true; the input reads as it did. -/
def packNoneSpec : ChangeSpec := { name := "packNone", fn := fun _ => fun
  | [d1, d2] => { results := [.lit (.bool true)], args := [d1, d2] }
  | _ => none }
def packNoneRow : OpenClaim := { program := "ytanfmpkjcoolmaa", sum := "79197212ee53ecdddc33f2677ca86999d58de871027e6f667fed9b8e4b113c32", func := "pontoon/pontoonlaw01.PackNone", spec := "packNone", apart := false }
def PackNoneSaid : Prop := packNoneRow.holds Try.pinned (OpenSpec.ofChange packNoneSpec)

/-- ITS FALSE NEIGHBOUR: 'it returns false'. Refute it at one input. -/
def packNoneWrong : ChangeSpec := { name := "packNone", fn := fun _ => fun
  | [d1, d2] => { results := [.lit (.bool false)], args := [d1, d2] }
  | _ => none }
def PackNoneWrongFalsely : Prop := packNoneRow.holds Try.pinned (OpenSpec.ofChange packNoneWrong)

/-- 'pontoonlaw21.MirrorBundles': WHATEVER THE INPUT: true; the input reads as it did. -/
def mirrorBundlesSpec : ChangeSpec := { name := "mirrorBundles", fn := fun _ => fun
  | [d1, d2, d3] => { results := [.lit (.bool true)], args := [d1, d2, d3] }
  | _ => none }
def mirrorBundlesRow : OpenClaim := { program := "ytanfmpkjcoolmaa", sum := "79197212ee53ecdddc33f2677ca86999d58de871027e6f667fed9b8e4b113c32", func := "pontoon/pontoonlaw21.MirrorBundles", spec := "mirrorBundles", unfollowed := true, recurses := true, apart := false }
def MirrorBundlesSaid : Prop := mirrorBundlesRow.holds Try.pinned (OpenSpec.ofChange mirrorBundlesSpec)

/-- ITS FALSE NEIGHBOUR: 'it returns false'. Refute it at one input. -/
def mirrorBundlesWrong : ChangeSpec := { name := "mirrorBundles", fn := fun _ => fun
  | [d1, d2, d3] => { results := [.lit (.bool false)], args := [d1, d2, d3] }
  | _ => none }
def MirrorBundlesWrongFalsely : Prop := mirrorBundlesRow.holds Try.pinned (OpenSpec.ofChange mirrorBundlesWrong)

/-- 'pontoonlaw21.MirrorOrder': WHATEVER THE INPUT: true; the input reads as it did. -/
def mirrorOrderSpec : ChangeSpec := { name := "mirrorOrder", fn := fun _ => fun
  | [d1, d2] => { results := [.lit (.bool true)], args := [d1, d2] }
  | _ => none }
def mirrorOrderRow : OpenClaim := { program := "ytanfmpkjcoolmaa", sum := "79197212ee53ecdddc33f2677ca86999d58de871027e6f667fed9b8e4b113c32", func := "pontoon/pontoonlaw21.MirrorOrder", spec := "mirrorOrder", unfollowed := true, recurses := true, apart := false }
def MirrorOrderSaid : Prop := mirrorOrderRow.holds Try.pinned (OpenSpec.ofChange mirrorOrderSpec)

/-- ITS FALSE NEIGHBOUR: 'it returns false'. Refute it at one input. -/
def mirrorOrderWrong : ChangeSpec := { name := "mirrorOrder", fn := fun _ => fun
  | [d1, d2] => { results := [.lit (.bool false)], args := [d1, d2] }
  | _ => none }
def MirrorOrderWrongFalsely : Prop := mirrorOrderRow.holds Try.pinned (OpenSpec.ofChange mirrorOrderWrong)

/-- 'pontoonlaw01.PackOne': WHATEVER THE INPUT: true; the input reads as it did. -/
def packOneSpec : ChangeSpec := { name := "packOne", fn := fun _ => fun
  | [d] => { results := [.lit (.bool true)], args := [d] }
  | _ => none }
def packOneRow : OpenClaim := { program := "ytanfmpkjcoolmaa", sum := "79197212ee53ecdddc33f2677ca86999d58de871027e6f667fed9b8e4b113c32", func := "pontoon/pontoonlaw01.PackOne", spec := "packOne", unfollowed := true, recurses := true, apart := false }
def PackOneSaid : Prop := packOneRow.holds Try.pinned (OpenSpec.ofChange packOneSpec)

/-- ITS FALSE NEIGHBOUR: 'it returns false'. Refute it at one input. -/
def packOneWrong : ChangeSpec := { name := "packOne", fn := fun _ => fun
  | [d] => { results := [.lit (.bool false)], args := [d] }
  | _ => none }
def PackOneWrongFalsely : Prop := packOneRow.holds Try.pinned (OpenSpec.ofChange packOneWrong)

/-- 'pontoonlaw06.EventJoins': WHATEVER THE INPUT: true; the input reads as it did. -/
def eventJoinsSpec : ChangeSpec := { name := "eventJoins", fn := fun _ => fun
  | [d] => { results := [.lit (.bool true)], args := [d] }
  | _ => none }
def eventJoinsRow : OpenClaim := { program := "ytanfmpkjcoolmaa", sum := "79197212ee53ecdddc33f2677ca86999d58de871027e6f667fed9b8e4b113c32", func := "pontoon/pontoonlaw06.EventJoins", spec := "eventJoins", unfollowed := true, recurses := true, apart := false }
def EventJoinsSaid : Prop := eventJoinsRow.holds Try.pinned (OpenSpec.ofChange eventJoinsSpec)

/-- ITS FALSE NEIGHBOUR: 'it returns false'. Refute it at one input. -/
def eventJoinsWrong : ChangeSpec := { name := "eventJoins", fn := fun _ => fun
  | [d] => { results := [.lit (.bool false)], args := [d] }
  | _ => none }
def EventJoinsWrongFalsely : Prop := eventJoinsRow.holds Try.pinned (OpenSpec.ofChange eventJoinsWrong)

/-- 'pontoonlaw01.PackFirst': WHATEVER THE INPUT: true; the input reads as it did. -/
def packFirstSpec : ChangeSpec := { name := "packFirst", fn := fun _ => fun
  | [d] => { results := [.lit (.bool true)], args := [d] }
  | _ => none }
def packFirstRow : OpenClaim := { program := "ytanfmpkjcoolmaa", sum := "79197212ee53ecdddc33f2677ca86999d58de871027e6f667fed9b8e4b113c32", func := "pontoon/pontoonlaw01.PackFirst", spec := "packFirst", unfollowed := true, recurses := true, apart := false }
def PackFirstSaid : Prop := packFirstRow.holds Try.pinned (OpenSpec.ofChange packFirstSpec)

/-- ITS FALSE NEIGHBOUR: 'it returns false'. Refute it at one input. -/
def packFirstWrong : ChangeSpec := { name := "packFirst", fn := fun _ => fun
  | [d] => { results := [.lit (.bool false)], args := [d] }
  | _ => none }
def PackFirstWrongFalsely : Prop := packFirstRow.holds Try.pinned (OpenSpec.ofChange packFirstWrong)

/-- 'pontoonlaw23.SessionOrder': WHATEVER THE INPUT: true; the input reads as it did. -/
def sessionOrderSpec : ChangeSpec := { name := "sessionOrder", fn := fun _ => fun
  | [d] => { results := [.lit (.bool true)], args := [d] }
  | _ => none }
def sessionOrderRow : OpenClaim := { program := "ytanfmpkjcoolmaa", sum := "79197212ee53ecdddc33f2677ca86999d58de871027e6f667fed9b8e4b113c32", func := "pontoon/pontoonlaw23.SessionOrder", spec := "sessionOrder", unfollowed := true, recurses := true, apart := false }
def SessionOrderSaid : Prop := sessionOrderRow.holds Try.pinned (OpenSpec.ofChange sessionOrderSpec)

/-- ITS FALSE NEIGHBOUR: 'it returns false'. Refute it at one input. -/
def sessionOrderWrong : ChangeSpec := { name := "sessionOrder", fn := fun _ => fun
  | [d] => { results := [.lit (.bool false)], args := [d] }
  | _ => none }
def SessionOrderWrongFalsely : Prop := sessionOrderRow.holds Try.pinned (OpenSpec.ofChange sessionOrderWrong)

/-- 'pontoonlaw23.SessionComes': WHATEVER THE INPUT: true; the input reads as it did. -/
def sessionComesSpec : ChangeSpec := { name := "sessionComes", fn := fun _ => fun
  | [d] => { results := [.lit (.bool true)], args := [d] }
  | _ => none }
def sessionComesRow : OpenClaim := { program := "ytanfmpkjcoolmaa", sum := "79197212ee53ecdddc33f2677ca86999d58de871027e6f667fed9b8e4b113c32", func := "pontoon/pontoonlaw23.SessionComes", spec := "sessionComes", unfollowed := true, recurses := true, apart := false }
def SessionComesSaid : Prop := sessionComesRow.holds Try.pinned (OpenSpec.ofChange sessionComesSpec)

/-- ITS FALSE NEIGHBOUR: 'it returns false'. Refute it at one input. -/
def sessionComesWrong : ChangeSpec := { name := "sessionComes", fn := fun _ => fun
  | [d] => { results := [.lit (.bool false)], args := [d] }
  | _ => none }
def SessionComesWrongFalsely : Prop := sessionComesRow.holds Try.pinned (OpenSpec.ofChange sessionComesWrong)

/-- 'pontoonlaw23.SessionAnew': WHATEVER THE INPUT: true; the input reads as it did. -/
def sessionAnewSpec : ChangeSpec := { name := "sessionAnew", fn := fun _ => fun
  | [d1, d2, d3] => { results := [.lit (.bool true)], args := [d1, d2, d3] }
  | _ => none }
def sessionAnewRow : OpenClaim := { program := "ytanfmpkjcoolmaa", sum := "79197212ee53ecdddc33f2677ca86999d58de871027e6f667fed9b8e4b113c32", func := "pontoon/pontoonlaw23.SessionAnew", spec := "sessionAnew", unfollowed := true, recurses := true, apart := false }
def SessionAnewSaid : Prop := sessionAnewRow.holds Try.pinned (OpenSpec.ofChange sessionAnewSpec)

/-- ITS FALSE NEIGHBOUR: 'it returns false'. Refute it at one input. -/
def sessionAnewWrong : ChangeSpec := { name := "sessionAnew", fn := fun _ => fun
  | [d1, d2, d3] => { results := [.lit (.bool false)], args := [d1, d2, d3] }
  | _ => none }
def SessionAnewWrongFalsely : Prop := sessionAnewRow.holds Try.pinned (OpenSpec.ofChange sessionAnewWrong)

/-- 'pontoonlaw06.EventTells': WHATEVER THE INPUT: true; the input reads as it did. -/
def eventTellsSpec : ChangeSpec := { name := "eventTells", fn := fun _ => fun
  | [d] => { results := [.lit (.bool true)], args := [d] }
  | _ => none }
def eventTellsRow : OpenClaim := { program := "ytanfmpkjcoolmaa", sum := "79197212ee53ecdddc33f2677ca86999d58de871027e6f667fed9b8e4b113c32", func := "pontoon/pontoonlaw06.EventTells", spec := "eventTells", unfollowed := true, recurses := true, apart := false }
def EventTellsSaid : Prop := eventTellsRow.holds Try.pinned (OpenSpec.ofChange eventTellsSpec)

/-- ITS FALSE NEIGHBOUR: 'it returns false'. Refute it at one input. -/
def eventTellsWrong : ChangeSpec := { name := "eventTells", fn := fun _ => fun
  | [d] => { results := [.lit (.bool false)], args := [d] }
  | _ => none }
def EventTellsWrongFalsely : Prop := eventTellsRow.holds Try.pinned (OpenSpec.ofChange eventTellsWrong)

/-- 'pontoonlaw13.LeaseBytes': WHATEVER THE INPUT: true; the input reads as it did. -/
def leaseBytesSpec : ChangeSpec := { name := "leaseBytes", fn := fun _ => fun
  | [d1, d2] => { results := [.lit (.bool true)], args := [d1, d2] }
  | _ => none }
def leaseBytesRow : OpenClaim := { program := "ytanfmpkjcoolmaa", sum := "79197212ee53ecdddc33f2677ca86999d58de871027e6f667fed9b8e4b113c32", func := "pontoon/pontoonlaw13.LeaseBytes", spec := "leaseBytes", unfollowed := true, recurses := true, apart := false }
def LeaseBytesSaid : Prop := leaseBytesRow.holds Try.pinned (OpenSpec.ofChange leaseBytesSpec)

/-- ITS FALSE NEIGHBOUR: 'it returns false'. Refute it at one input. -/
def leaseBytesWrong : ChangeSpec := { name := "leaseBytes", fn := fun _ => fun
  | [d1, d2] => { results := [.lit (.bool false)], args := [d1, d2] }
  | _ => none }
def LeaseBytesWrongFalsely : Prop := leaseBytesRow.holds Try.pinned (OpenSpec.ofChange leaseBytesWrong)

/-- 'pontoonlaw06.EventReads': WHATEVER THE INPUT: true; the input reads as it did. -/
def eventReadsSpec : ChangeSpec := { name := "eventReads", fn := fun _ => fun
  | [d] => { results := [.lit (.bool true)], args := [d] }
  | _ => none }
def eventReadsRow : OpenClaim := { program := "ytanfmpkjcoolmaa", sum := "79197212ee53ecdddc33f2677ca86999d58de871027e6f667fed9b8e4b113c32", func := "pontoon/pontoonlaw06.EventReads", spec := "eventReads", apart := false }
def EventReadsSaid : Prop := eventReadsRow.holds Try.pinned (OpenSpec.ofChange eventReadsSpec)

/-- ITS FALSE NEIGHBOUR: 'it returns false'. Refute it at one input. -/
def eventReadsWrong : ChangeSpec := { name := "eventReads", fn := fun _ => fun
  | [d] => { results := [.lit (.bool false)], args := [d] }
  | _ => none }
def EventReadsWrongFalsely : Prop := eventReadsRow.holds Try.pinned (OpenSpec.ofChange eventReadsWrong)

/-- 'pontoonlaw06.EventBack': WHATEVER THE INPUT: true; the input reads as it did. -/
def eventBackSpec : ChangeSpec := { name := "eventBack", fn := fun _ => fun
  | [d1, d2, d3] => { results := [.lit (.bool true)], args := [d1, d2, d3] }
  | _ => none }
def eventBackRow : OpenClaim := { program := "ytanfmpkjcoolmaa", sum := "79197212ee53ecdddc33f2677ca86999d58de871027e6f667fed9b8e4b113c32", func := "pontoon/pontoonlaw06.EventBack", spec := "eventBack", apart := false }
def EventBackSaid : Prop := eventBackRow.holds Try.pinned (OpenSpec.ofChange eventBackSpec)

/-- ITS FALSE NEIGHBOUR: 'it returns false'. Refute it at one input. -/
def eventBackWrong : ChangeSpec := { name := "eventBack", fn := fun _ => fun
  | [d1, d2, d3] => { results := [.lit (.bool false)], args := [d1, d2, d3] }
  | _ => none }
def EventBackWrongFalsely : Prop := eventBackRow.holds Try.pinned (OpenSpec.ofChange eventBackWrong)

/-- 'pontoonlaw21.MirrorEntries': WHATEVER THE INPUT: true; the input reads as it did. -/
def mirrorEntriesSpec : ChangeSpec := { name := "mirrorEntries", fn := fun _ => fun
  | [d1, d2, d3] => { results := [.lit (.bool true)], args := [d1, d2, d3] }
  | _ => none }
def mirrorEntriesRow : OpenClaim := { program := "ytanfmpkjcoolmaa", sum := "79197212ee53ecdddc33f2677ca86999d58de871027e6f667fed9b8e4b113c32", func := "pontoon/pontoonlaw21.MirrorEntries", spec := "mirrorEntries", unfollowed := true, recurses := true, apart := false }
def MirrorEntriesSaid : Prop := mirrorEntriesRow.holds Try.pinned (OpenSpec.ofChange mirrorEntriesSpec)

/-- ITS FALSE NEIGHBOUR: 'it returns false'. Refute it at one input. -/
def mirrorEntriesWrong : ChangeSpec := { name := "mirrorEntries", fn := fun _ => fun
  | [d1, d2, d3] => { results := [.lit (.bool false)], args := [d1, d2, d3] }
  | _ => none }
def MirrorEntriesWrongFalsely : Prop := mirrorEntriesRow.holds Try.pinned (OpenSpec.ofChange mirrorEntriesWrong)

/-- 'pontoonlaw20.OffsetBack': WHATEVER THE INPUT: true; the input reads as it did. -/
def offsetBackSpec : ChangeSpec := { name := "offsetBack", fn := fun _ => fun
  | [d1, d2, d3, d4] => { results := [.lit (.bool true)], args := [d1, d2, d3, d4] }
  | _ => none }
def offsetBackRow : OpenClaim := { program := "ytanfmpkjcoolmaa", sum := "79197212ee53ecdddc33f2677ca86999d58de871027e6f667fed9b8e4b113c32", func := "pontoon/pontoonlaw20.OffsetBack", spec := "offsetBack", unfollowed := true, recurses := true, apart := false }
def OffsetBackSaid : Prop := offsetBackRow.holds Try.pinned (OpenSpec.ofChange offsetBackSpec)

/-- ITS FALSE NEIGHBOUR: 'it returns false'. Refute it at one input. -/
def offsetBackWrong : ChangeSpec := { name := "offsetBack", fn := fun _ => fun
  | [d1, d2, d3, d4] => { results := [.lit (.bool false)], args := [d1, d2, d3, d4] }
  | _ => none }
def OffsetBackWrongFalsely : Prop := offsetBackRow.holds Try.pinned (OpenSpec.ofChange offsetBackWrong)

/-- 'pontoonlaw20.OffsetTells': WHATEVER THE INPUT: true; the input reads as it did. -/
def offsetTellsSpec : ChangeSpec := { name := "offsetTells", fn := fun _ => fun
  | [d1, d2] => { results := [.lit (.bool true)], args := [d1, d2] }
  | _ => none }
def offsetTellsRow : OpenClaim := { program := "ytanfmpkjcoolmaa", sum := "79197212ee53ecdddc33f2677ca86999d58de871027e6f667fed9b8e4b113c32", func := "pontoon/pontoonlaw20.OffsetTells", spec := "offsetTells", unfollowed := true, recurses := true, apart := false }
def OffsetTellsSaid : Prop := offsetTellsRow.holds Try.pinned (OpenSpec.ofChange offsetTellsSpec)

/-- ITS FALSE NEIGHBOUR: 'it returns false'. Refute it at one input. -/
def offsetTellsWrong : ChangeSpec := { name := "offsetTells", fn := fun _ => fun
  | [d1, d2] => { results := [.lit (.bool false)], args := [d1, d2] }
  | _ => none }
def OffsetTellsWrongFalsely : Prop := offsetTellsRow.holds Try.pinned (OpenSpec.ofChange offsetTellsWrong)

/-- 'pontoonlaw23.SessionBytes': WHATEVER THE INPUT: true; the input reads as it did. -/
def sessionBytesSpec : ChangeSpec := { name := "sessionBytes", fn := fun _ => fun
  | [d1, d2, d3] => { results := [.lit (.bool true)], args := [d1, d2, d3] }
  | _ => none }
def sessionBytesRow : OpenClaim := { program := "ytanfmpkjcoolmaa", sum := "79197212ee53ecdddc33f2677ca86999d58de871027e6f667fed9b8e4b113c32", func := "pontoon/pontoonlaw23.SessionBytes", spec := "sessionBytes", unfollowed := true, recurses := true, apart := false }
def SessionBytesSaid : Prop := sessionBytesRow.holds Try.pinned (OpenSpec.ofChange sessionBytesSpec)

/-- ITS FALSE NEIGHBOUR: 'it returns false'. Refute it at one input. -/
def sessionBytesWrong : ChangeSpec := { name := "sessionBytes", fn := fun _ => fun
  | [d1, d2, d3] => { results := [.lit (.bool false)], args := [d1, d2, d3] }
  | _ => none }
def SessionBytesWrongFalsely : Prop := sessionBytesRow.holds Try.pinned (OpenSpec.ofChange sessionBytesWrong)

/-- 'pontoonlaw20.OffsetMatch': WHATEVER THE INPUT: true; the input reads as it did. -/
def offsetMatchSpec : ChangeSpec := { name := "offsetMatch", fn := fun _ => fun
  | [d] => { results := [.lit (.bool true)], args := [d] }
  | _ => none }
def offsetMatchRow : OpenClaim := { program := "ytanfmpkjcoolmaa", sum := "79197212ee53ecdddc33f2677ca86999d58de871027e6f667fed9b8e4b113c32", func := "pontoon/pontoonlaw20.OffsetMatch", spec := "offsetMatch", unfollowed := true, recurses := true, apart := false }
def OffsetMatchSaid : Prop := offsetMatchRow.holds Try.pinned (OpenSpec.ofChange offsetMatchSpec)

/-- ITS FALSE NEIGHBOUR: 'it returns false'. Refute it at one input. -/
def offsetMatchWrong : ChangeSpec := { name := "offsetMatch", fn := fun _ => fun
  | [d] => { results := [.lit (.bool false)], args := [d] }
  | _ => none }
def OffsetMatchWrongFalsely : Prop := offsetMatchRow.holds Try.pinned (OpenSpec.ofChange offsetMatchWrong)

/-- 'pontoonlaw20.OffsetDoes': WHATEVER THE INPUT: true; the input reads as it did. -/
def offsetDoesSpec : ChangeSpec := { name := "offsetDoes", fn := fun _ => fun
  | [d1, d2, d3, d4] => { results := [.lit (.bool true)], args := [d1, d2, d3, d4] }
  | _ => none }
def offsetDoesRow : OpenClaim := { program := "ytanfmpkjcoolmaa", sum := "79197212ee53ecdddc33f2677ca86999d58de871027e6f667fed9b8e4b113c32", func := "pontoon/pontoonlaw20.OffsetDoes", spec := "offsetDoes", unfollowed := true, recurses := true, apart := false }
def OffsetDoesSaid : Prop := offsetDoesRow.holds Try.pinned (OpenSpec.ofChange offsetDoesSpec)

/-- ITS FALSE NEIGHBOUR: 'it returns false'. Refute it at one input. -/
def offsetDoesWrong : ChangeSpec := { name := "offsetDoes", fn := fun _ => fun
  | [d1, d2, d3, d4] => { results := [.lit (.bool false)], args := [d1, d2, d3, d4] }
  | _ => none }
def OffsetDoesWrongFalsely : Prop := offsetDoesRow.holds Try.pinned (OpenSpec.ofChange offsetDoesWrong)

/-- 'pontoonlaw20.OffsetBytes': WHATEVER THE INPUT: true; the input reads as it did. -/
def offsetBytesSpec : ChangeSpec := { name := "offsetBytes", fn := fun _ => fun
  | [d1, d2] => { results := [.lit (.bool true)], args := [d1, d2] }
  | _ => none }
def offsetBytesRow : OpenClaim := { program := "ytanfmpkjcoolmaa", sum := "79197212ee53ecdddc33f2677ca86999d58de871027e6f667fed9b8e4b113c32", func := "pontoon/pontoonlaw20.OffsetBytes", spec := "offsetBytes", unfollowed := true, recurses := true, apart := false }
def OffsetBytesSaid : Prop := offsetBytesRow.holds Try.pinned (OpenSpec.ofChange offsetBytesSpec)

/-- ITS FALSE NEIGHBOUR: 'it returns false'. Refute it at one input. -/
def offsetBytesWrong : ChangeSpec := { name := "offsetBytes", fn := fun _ => fun
  | [d1, d2] => { results := [.lit (.bool false)], args := [d1, d2] }
  | _ => none }
def OffsetBytesWrongFalsely : Prop := offsetBytesRow.holds Try.pinned (OpenSpec.ofChange offsetBytesWrong)

/- THE SECOND FORM. 'bulk': how many values and letters a reading holds, each counted each time it is reached (what is shared counts as often as it is met; a slice's spare places count too). A statement '..UptoSaid' is the law's where the arguments, and the package variables that the reading takes, are together of bulk at most 1048576: NARROWER than '..Said'. Prove '..Said' where nothing that the law and all that it calls make is longer than what came in: it says more and counts as full. Else prove '..UptoSaid'. A law counts once. -/
mutual
def uptoBulk {H : Type} : DataW H → Nat
  | .lit (.string bytes) => bytes.length + 1
  | .lit _ => 1
  | .nil => 1
  | .ptr d => uptoBulk d + 1
  | .slice elems spare => uptoBulkAll elems + uptoBulkAll spare + 1
  | .agg parts => uptoBulkAll parts + 1
  | .iface _ d => uptoBulk d + 1
  | .map entries => uptoBulkEntries entries + 1
  | .held _ => 1
def uptoBulkAll {H : Type} : List (DataW H) → Nat
  | [] => 0
  | d :: r => uptoBulk d + uptoBulkAll r
def uptoBulkEntries {H : Type} : List (Lit × DataW H) → Nat
  | [] => 0
  | x :: r => uptoBulkEntry x + uptoBulkEntries r
def uptoBulkEntry {H : Type} : Lit × DataW H → Nat
  | (.string bytes, d) => bytes.length + uptoBulk d + 1
  | (_, d) => uptoBulk d + 1
 end
def uptoSmall : (H : Type) → List (DataW H) → Bool := fun _ ds => decide (uptoBulkAll ds ≤ 1048576)
def OpenSpec.upto (s : _root_.Go.ChangeSpec) : _root_.Go.OpenSpec := { _root_.Go.OpenSpec.ofChange s with cond := some uptoSmall }

/-- 'pontoonlaw06.EventBytes', WHERE WHAT IT READS IS OF BULK AT MOST 1048576: true; the input reads as it did. -/
def eventBytesUptoRow : OpenClaim := { program := "ytanfmpkjcoolmaa", sum := "79197212ee53ecdddc33f2677ca86999d58de871027e6f667fed9b8e4b113c32", func := "pontoon/pontoonlaw06.EventBytes", spec := "eventBytes", apart := false, narrowed := true }
def EventBytesUptoSaid : Prop := eventBytesUptoRow.holds Try.pinned (OpenSpec.upto eventBytesSpec)

/-- 'pontoonlaw13.LeaseDoes', WHERE WHAT IT READS IS OF BULK AT MOST 1048576: true; the input reads as it did. -/
def leaseDoesUptoRow : OpenClaim := { program := "ytanfmpkjcoolmaa", sum := "79197212ee53ecdddc33f2677ca86999d58de871027e6f667fed9b8e4b113c32", func := "pontoon/pontoonlaw13.LeaseDoes", spec := "leaseDoes", apart := false, narrowed := true }
def LeaseDoesUptoSaid : Prop := leaseDoesUptoRow.holds Try.pinned (OpenSpec.upto leaseDoesSpec)

/-- 'pontoonlaw13.LeaseEpochs', WHERE WHAT IT READS IS OF BULK AT MOST 1048576: true; the input reads as it did. -/
def leaseEpochsUptoRow : OpenClaim := { program := "ytanfmpkjcoolmaa", sum := "79197212ee53ecdddc33f2677ca86999d58de871027e6f667fed9b8e4b113c32", func := "pontoon/pontoonlaw13.LeaseEpochs", spec := "leaseEpochs", apart := false, narrowed := true }
def LeaseEpochsUptoSaid : Prop := leaseEpochsUptoRow.holds Try.pinned (OpenSpec.upto leaseEpochsSpec)

/-- 'pontoonlaw13.LeaseNot', WHERE WHAT IT READS IS OF BULK AT MOST 1048576: true; the input reads as it did. -/
def leaseNotUptoRow : OpenClaim := { program := "ytanfmpkjcoolmaa", sum := "79197212ee53ecdddc33f2677ca86999d58de871027e6f667fed9b8e4b113c32", func := "pontoon/pontoonlaw13.LeaseNot", spec := "leaseNot", apart := false, narrowed := true }
def LeaseNotUptoSaid : Prop := leaseNotUptoRow.holds Try.pinned (OpenSpec.upto leaseNotSpec)

/-- 'pontoonlaw21.MirrorThere', WHERE WHAT IT READS IS OF BULK AT MOST 1048576: true; the input reads as it did. -/
def mirrorThereUptoRow : OpenClaim := { program := "ytanfmpkjcoolmaa", sum := "79197212ee53ecdddc33f2677ca86999d58de871027e6f667fed9b8e4b113c32", func := "pontoon/pontoonlaw21.MirrorThere", spec := "mirrorThere", apart := false, narrowed := true }
def MirrorThereUptoSaid : Prop := mirrorThereUptoRow.holds Try.pinned (OpenSpec.upto mirrorThereSpec)

/-- 'pontoonlaw21.MirrorKnows', WHERE WHAT IT READS IS OF BULK AT MOST 1048576: true; the input reads as it did. -/
def mirrorKnowsUptoRow : OpenClaim := { program := "ytanfmpkjcoolmaa", sum := "79197212ee53ecdddc33f2677ca86999d58de871027e6f667fed9b8e4b113c32", func := "pontoon/pontoonlaw21.MirrorKnows", spec := "mirrorKnows", apart := false, narrowed := true }
def MirrorKnowsUptoSaid : Prop := mirrorKnowsUptoRow.holds Try.pinned (OpenSpec.upto mirrorKnowsSpec)

/-- 'pontoonlaw01.PackPuts', WHERE WHAT IT READS IS OF BULK AT MOST 1048576: true; the input reads as it did. -/
def packPutsUptoRow : OpenClaim := { program := "ytanfmpkjcoolmaa", sum := "79197212ee53ecdddc33f2677ca86999d58de871027e6f667fed9b8e4b113c32", func := "pontoon/pontoonlaw01.PackPuts", spec := "packPuts", apart := false, narrowed := true }
def PackPutsUptoSaid : Prop := packPutsUptoRow.holds Try.pinned (OpenSpec.upto packPutsSpec)

/-- 'pontoonlaw06.EventLeaves', WHERE WHAT IT READS IS OF BULK AT MOST 1048576: true; the input reads as it did. -/
def eventLeavesUptoRow : OpenClaim := { program := "ytanfmpkjcoolmaa", sum := "79197212ee53ecdddc33f2677ca86999d58de871027e6f667fed9b8e4b113c32", func := "pontoon/pontoonlaw06.EventLeaves", spec := "eventLeaves", unfollowed := true, recurses := true, apart := false, narrowed := true }
def EventLeavesUptoSaid : Prop := eventLeavesUptoRow.holds Try.pinned (OpenSpec.upto eventLeavesSpec)

/-- 'pontoonlaw01.PackRises', WHERE WHAT IT READS IS OF BULK AT MOST 1048576: true; the input reads as it did. -/
def packRisesUptoRow : OpenClaim := { program := "ytanfmpkjcoolmaa", sum := "79197212ee53ecdddc33f2677ca86999d58de871027e6f667fed9b8e4b113c32", func := "pontoon/pontoonlaw01.PackRises", spec := "packRises", inPlace := ["internal/bytealg.Compare"], apart := false, narrowed := true }
def PackRisesUptoSaid : Prop := packRisesUptoRow.holds Try.pinned (OpenSpec.upto packRisesSpec)

/-- 'pontoonlaw01.PackBack', WHERE WHAT IT READS IS OF BULK AT MOST 1048576: true; the input reads as it did. -/
def packBackUptoRow : OpenClaim := { program := "ytanfmpkjcoolmaa", sum := "79197212ee53ecdddc33f2677ca86999d58de871027e6f667fed9b8e4b113c32", func := "pontoon/pontoonlaw01.PackBack", spec := "packBack", apart := false, narrowed := true }
def PackBackUptoSaid : Prop := packBackUptoRow.holds Try.pinned (OpenSpec.upto packBackSpec)

/-- 'pontoonlaw01.PackReads', WHERE WHAT IT READS IS OF BULK AT MOST 1048576: true; the input reads as it did. -/
def packReadsUptoRow : OpenClaim := { program := "ytanfmpkjcoolmaa", sum := "79197212ee53ecdddc33f2677ca86999d58de871027e6f667fed9b8e4b113c32", func := "pontoon/pontoonlaw01.PackReads", spec := "packReads", apart := false, narrowed := true }
def PackReadsUptoSaid : Prop := packReadsUptoRow.holds Try.pinned (OpenSpec.upto packReadsSpec)

/-- 'pontoonlaw01.PackNone', WHERE WHAT IT READS IS OF BULK AT MOST 1048576: true; the input reads as it did. -/
def packNoneUptoRow : OpenClaim := { program := "ytanfmpkjcoolmaa", sum := "79197212ee53ecdddc33f2677ca86999d58de871027e6f667fed9b8e4b113c32", func := "pontoon/pontoonlaw01.PackNone", spec := "packNone", apart := false, narrowed := true }
def PackNoneUptoSaid : Prop := packNoneUptoRow.holds Try.pinned (OpenSpec.upto packNoneSpec)

/-- 'pontoonlaw21.MirrorBundles', WHERE WHAT IT READS IS OF BULK AT MOST 1048576: true; the input reads as it did. -/
def mirrorBundlesUptoRow : OpenClaim := { program := "ytanfmpkjcoolmaa", sum := "79197212ee53ecdddc33f2677ca86999d58de871027e6f667fed9b8e4b113c32", func := "pontoon/pontoonlaw21.MirrorBundles", spec := "mirrorBundles", unfollowed := true, recurses := true, apart := false, narrowed := true }
def MirrorBundlesUptoSaid : Prop := mirrorBundlesUptoRow.holds Try.pinned (OpenSpec.upto mirrorBundlesSpec)

/-- 'pontoonlaw21.MirrorOrder', WHERE WHAT IT READS IS OF BULK AT MOST 1048576: true; the input reads as it did. -/
def mirrorOrderUptoRow : OpenClaim := { program := "ytanfmpkjcoolmaa", sum := "79197212ee53ecdddc33f2677ca86999d58de871027e6f667fed9b8e4b113c32", func := "pontoon/pontoonlaw21.MirrorOrder", spec := "mirrorOrder", unfollowed := true, recurses := true, apart := false, narrowed := true }
def MirrorOrderUptoSaid : Prop := mirrorOrderUptoRow.holds Try.pinned (OpenSpec.upto mirrorOrderSpec)

/-- 'pontoonlaw01.PackOne', WHERE WHAT IT READS IS OF BULK AT MOST 1048576: true; the input reads as it did. -/
def packOneUptoRow : OpenClaim := { program := "ytanfmpkjcoolmaa", sum := "79197212ee53ecdddc33f2677ca86999d58de871027e6f667fed9b8e4b113c32", func := "pontoon/pontoonlaw01.PackOne", spec := "packOne", unfollowed := true, recurses := true, apart := false, narrowed := true }
def PackOneUptoSaid : Prop := packOneUptoRow.holds Try.pinned (OpenSpec.upto packOneSpec)

/-- 'pontoonlaw06.EventJoins', WHERE WHAT IT READS IS OF BULK AT MOST 1048576: true; the input reads as it did. -/
def eventJoinsUptoRow : OpenClaim := { program := "ytanfmpkjcoolmaa", sum := "79197212ee53ecdddc33f2677ca86999d58de871027e6f667fed9b8e4b113c32", func := "pontoon/pontoonlaw06.EventJoins", spec := "eventJoins", unfollowed := true, recurses := true, apart := false, narrowed := true }
def EventJoinsUptoSaid : Prop := eventJoinsUptoRow.holds Try.pinned (OpenSpec.upto eventJoinsSpec)

/-- 'pontoonlaw01.PackFirst', WHERE WHAT IT READS IS OF BULK AT MOST 1048576: true; the input reads as it did. -/
def packFirstUptoRow : OpenClaim := { program := "ytanfmpkjcoolmaa", sum := "79197212ee53ecdddc33f2677ca86999d58de871027e6f667fed9b8e4b113c32", func := "pontoon/pontoonlaw01.PackFirst", spec := "packFirst", unfollowed := true, recurses := true, apart := false, narrowed := true }
def PackFirstUptoSaid : Prop := packFirstUptoRow.holds Try.pinned (OpenSpec.upto packFirstSpec)

/-- 'pontoonlaw23.SessionOrder', WHERE WHAT IT READS IS OF BULK AT MOST 1048576: true; the input reads as it did. -/
def sessionOrderUptoRow : OpenClaim := { program := "ytanfmpkjcoolmaa", sum := "79197212ee53ecdddc33f2677ca86999d58de871027e6f667fed9b8e4b113c32", func := "pontoon/pontoonlaw23.SessionOrder", spec := "sessionOrder", unfollowed := true, recurses := true, apart := false, narrowed := true }
def SessionOrderUptoSaid : Prop := sessionOrderUptoRow.holds Try.pinned (OpenSpec.upto sessionOrderSpec)

/-- 'pontoonlaw23.SessionComes', WHERE WHAT IT READS IS OF BULK AT MOST 1048576: true; the input reads as it did. -/
def sessionComesUptoRow : OpenClaim := { program := "ytanfmpkjcoolmaa", sum := "79197212ee53ecdddc33f2677ca86999d58de871027e6f667fed9b8e4b113c32", func := "pontoon/pontoonlaw23.SessionComes", spec := "sessionComes", unfollowed := true, recurses := true, apart := false, narrowed := true }
def SessionComesUptoSaid : Prop := sessionComesUptoRow.holds Try.pinned (OpenSpec.upto sessionComesSpec)

/-- 'pontoonlaw23.SessionAnew', WHERE WHAT IT READS IS OF BULK AT MOST 1048576: true; the input reads as it did. -/
def sessionAnewUptoRow : OpenClaim := { program := "ytanfmpkjcoolmaa", sum := "79197212ee53ecdddc33f2677ca86999d58de871027e6f667fed9b8e4b113c32", func := "pontoon/pontoonlaw23.SessionAnew", spec := "sessionAnew", unfollowed := true, recurses := true, apart := false, narrowed := true }
def SessionAnewUptoSaid : Prop := sessionAnewUptoRow.holds Try.pinned (OpenSpec.upto sessionAnewSpec)

/-- 'pontoonlaw06.EventTells', WHERE WHAT IT READS IS OF BULK AT MOST 1048576: true; the input reads as it did. -/
def eventTellsUptoRow : OpenClaim := { program := "ytanfmpkjcoolmaa", sum := "79197212ee53ecdddc33f2677ca86999d58de871027e6f667fed9b8e4b113c32", func := "pontoon/pontoonlaw06.EventTells", spec := "eventTells", unfollowed := true, recurses := true, apart := false, narrowed := true }
def EventTellsUptoSaid : Prop := eventTellsUptoRow.holds Try.pinned (OpenSpec.upto eventTellsSpec)

/-- 'pontoonlaw13.LeaseBytes', WHERE WHAT IT READS IS OF BULK AT MOST 1048576: true; the input reads as it did. -/
def leaseBytesUptoRow : OpenClaim := { program := "ytanfmpkjcoolmaa", sum := "79197212ee53ecdddc33f2677ca86999d58de871027e6f667fed9b8e4b113c32", func := "pontoon/pontoonlaw13.LeaseBytes", spec := "leaseBytes", unfollowed := true, recurses := true, apart := false, narrowed := true }
def LeaseBytesUptoSaid : Prop := leaseBytesUptoRow.holds Try.pinned (OpenSpec.upto leaseBytesSpec)

/-- 'pontoonlaw06.EventReads', WHERE WHAT IT READS IS OF BULK AT MOST 1048576: true; the input reads as it did. -/
def eventReadsUptoRow : OpenClaim := { program := "ytanfmpkjcoolmaa", sum := "79197212ee53ecdddc33f2677ca86999d58de871027e6f667fed9b8e4b113c32", func := "pontoon/pontoonlaw06.EventReads", spec := "eventReads", apart := false, narrowed := true }
def EventReadsUptoSaid : Prop := eventReadsUptoRow.holds Try.pinned (OpenSpec.upto eventReadsSpec)

/-- 'pontoonlaw06.EventBack', WHERE WHAT IT READS IS OF BULK AT MOST 1048576: true; the input reads as it did. -/
def eventBackUptoRow : OpenClaim := { program := "ytanfmpkjcoolmaa", sum := "79197212ee53ecdddc33f2677ca86999d58de871027e6f667fed9b8e4b113c32", func := "pontoon/pontoonlaw06.EventBack", spec := "eventBack", apart := false, narrowed := true }
def EventBackUptoSaid : Prop := eventBackUptoRow.holds Try.pinned (OpenSpec.upto eventBackSpec)

/-- 'pontoonlaw21.MirrorEntries', WHERE WHAT IT READS IS OF BULK AT MOST 1048576: true; the input reads as it did. -/
def mirrorEntriesUptoRow : OpenClaim := { program := "ytanfmpkjcoolmaa", sum := "79197212ee53ecdddc33f2677ca86999d58de871027e6f667fed9b8e4b113c32", func := "pontoon/pontoonlaw21.MirrorEntries", spec := "mirrorEntries", unfollowed := true, recurses := true, apart := false, narrowed := true }
def MirrorEntriesUptoSaid : Prop := mirrorEntriesUptoRow.holds Try.pinned (OpenSpec.upto mirrorEntriesSpec)

/-- 'pontoonlaw20.OffsetBack', WHERE WHAT IT READS IS OF BULK AT MOST 1048576: true; the input reads as it did. -/
def offsetBackUptoRow : OpenClaim := { program := "ytanfmpkjcoolmaa", sum := "79197212ee53ecdddc33f2677ca86999d58de871027e6f667fed9b8e4b113c32", func := "pontoon/pontoonlaw20.OffsetBack", spec := "offsetBack", unfollowed := true, recurses := true, apart := false, narrowed := true }
def OffsetBackUptoSaid : Prop := offsetBackUptoRow.holds Try.pinned (OpenSpec.upto offsetBackSpec)

/-- 'pontoonlaw20.OffsetTells', WHERE WHAT IT READS IS OF BULK AT MOST 1048576: true; the input reads as it did. -/
def offsetTellsUptoRow : OpenClaim := { program := "ytanfmpkjcoolmaa", sum := "79197212ee53ecdddc33f2677ca86999d58de871027e6f667fed9b8e4b113c32", func := "pontoon/pontoonlaw20.OffsetTells", spec := "offsetTells", unfollowed := true, recurses := true, apart := false, narrowed := true }
def OffsetTellsUptoSaid : Prop := offsetTellsUptoRow.holds Try.pinned (OpenSpec.upto offsetTellsSpec)

/-- 'pontoonlaw23.SessionBytes', WHERE WHAT IT READS IS OF BULK AT MOST 1048576: true; the input reads as it did. -/
def sessionBytesUptoRow : OpenClaim := { program := "ytanfmpkjcoolmaa", sum := "79197212ee53ecdddc33f2677ca86999d58de871027e6f667fed9b8e4b113c32", func := "pontoon/pontoonlaw23.SessionBytes", spec := "sessionBytes", unfollowed := true, recurses := true, apart := false, narrowed := true }
def SessionBytesUptoSaid : Prop := sessionBytesUptoRow.holds Try.pinned (OpenSpec.upto sessionBytesSpec)

/-- 'pontoonlaw20.OffsetMatch', WHERE WHAT IT READS IS OF BULK AT MOST 1048576: true; the input reads as it did. -/
def offsetMatchUptoRow : OpenClaim := { program := "ytanfmpkjcoolmaa", sum := "79197212ee53ecdddc33f2677ca86999d58de871027e6f667fed9b8e4b113c32", func := "pontoon/pontoonlaw20.OffsetMatch", spec := "offsetMatch", unfollowed := true, recurses := true, apart := false, narrowed := true }
def OffsetMatchUptoSaid : Prop := offsetMatchUptoRow.holds Try.pinned (OpenSpec.upto offsetMatchSpec)

/-- 'pontoonlaw20.OffsetDoes', WHERE WHAT IT READS IS OF BULK AT MOST 1048576: true; the input reads as it did. -/
def offsetDoesUptoRow : OpenClaim := { program := "ytanfmpkjcoolmaa", sum := "79197212ee53ecdddc33f2677ca86999d58de871027e6f667fed9b8e4b113c32", func := "pontoon/pontoonlaw20.OffsetDoes", spec := "offsetDoes", unfollowed := true, recurses := true, apart := false, narrowed := true }
def OffsetDoesUptoSaid : Prop := offsetDoesUptoRow.holds Try.pinned (OpenSpec.upto offsetDoesSpec)

/-- 'pontoonlaw20.OffsetBytes', WHERE WHAT IT READS IS OF BULK AT MOST 1048576: true; the input reads as it did. -/
def offsetBytesUptoRow : OpenClaim := { program := "ytanfmpkjcoolmaa", sum := "79197212ee53ecdddc33f2677ca86999d58de871027e6f667fed9b8e4b113c32", func := "pontoon/pontoonlaw20.OffsetBytes", spec := "offsetBytes", unfollowed := true, recurses := true, apart := false, narrowed := true }
def OffsetBytesUptoSaid : Prop := offsetBytesUptoRow.holds Try.pinned (OpenSpec.upto offsetBytesSpec)

end Rows
end Go.Proofs.Ytanfmpkjcoolmaa
