/-
  No cell of these rows narrows 'for every input' (looked for: loops, veiled, ifaces, maps, wideKeys, modest, calm, conditions, laid).
  DERIVED. THE GIVEN ROWS OF THIS SEAT. 12 by the template 'for every input the law returns true; each argument reads behind the call as it read before'; 0 by the template 'total and deterministic' (their statements: YtiifemlnknochaaTotals.lean).
  GIVEN WITH THE SEED: the statements are not yours to turn. If you find one false, say at which input.
  Laid BY PROGRAM, IN A SANDBOX (cutbox-rows.mjs): the forced cells as the released guide's own fill.sh prints them over the translation b5d988d43f87018b… (all of the seat's roots in one cut). By AI agents, Wed Nov 11 2026. No macro, syntax, notation, axiom, sorry.
-/
import Derived.Test.YtiifemlnknochaaChecked
import GoSem.Claim
import GoSem.ClaimJoined
import GoSem.ClaimMapViews
import Derived.JoinedTies
import Derived.KernelRfl
namespace Go.Proofs.Ytiifemlnknochaa
/- THE CELL 'sum', in the pinned program and in every row, IS THE sha256 OF THE DUMP (.gsa) THAT YtiifemlnknochaaProg.lean LOADS. Nothing in Lean hashes anything: it is a label: what it is worth is what the hold of that sum in a sandbox is worth. -/
noncomputable def Try.pinned : Pinned := { name := "ytiifemlnknochaa", sum := "b5d988d43f87018b06c60dad8b9523f26c4e184c7dcc658b0b3dd7bd6d1d83c4", checked := Try.checked }
namespace Rows
def none {H : Type} : Left H := { results := [], args := [] }

/-- 'laws.FnExactLengthOf': WHATEVER THE INPUT: true; the input reads as it did. -/
def fnExactLengthOfSpec : ChangeSpec := { name := "fnExactLengthOf", fn := fun _ => fun
  | [d] => { results := [.lit (.bool true)], args := [d] }
  | _ => none }
def fnExactLengthOfRow : OpenClaim := { program := "ytiifemlnknochaa", sum := "b5d988d43f87018b06c60dad8b9523f26c4e184c7dcc658b0b3dd7bd6d1d83c4", func := "loop.example/g00989/laws.FnExactLengthOf", spec := "fnExactLengthOf", plainKeys := false, apart := false }
def FnExactLengthOfSaid : Prop := fnExactLengthOfRow.holds Try.pinned (OpenSpec.ofChange fnExactLengthOfSpec)

/-- ITS FALSE NEIGHBOUR: 'it returns false'. Refute it at one input. -/
def fnExactLengthOfWrong : ChangeSpec := { name := "fnExactLengthOf", fn := fun _ => fun
  | [d] => { results := [.lit (.bool false)], args := [d] }
  | _ => none }
def FnExactLengthOfWrongFalsely : Prop := fnExactLengthOfRow.holds Try.pinned (OpenSpec.ofChange fnExactLengthOfWrong)

/-- 'laws.FnExactBellowsOk': WHATEVER THE INPUT: true; the input reads as it did. -/
def fnExactBellowsOkSpec : ChangeSpec := { name := "fnExactBellowsOk", fn := fun _ => fun
  | [d] => { results := [.lit (.bool true)], args := [d] }
  | _ => none }
def fnExactBellowsOkRow : OpenClaim := { program := "ytiifemlnknochaa", sum := "b5d988d43f87018b06c60dad8b9523f26c4e184c7dcc658b0b3dd7bd6d1d83c4", func := "loop.example/g00989/laws.FnExactBellowsOk", spec := "fnExactBellowsOk", plainKeys := false, apart := false }
def FnExactBellowsOkSaid : Prop := fnExactBellowsOkRow.holds Try.pinned (OpenSpec.ofChange fnExactBellowsOkSpec)

/-- ITS FALSE NEIGHBOUR: 'it returns false'. Refute it at one input. -/
def fnExactBellowsOkWrong : ChangeSpec := { name := "fnExactBellowsOk", fn := fun _ => fun
  | [d] => { results := [.lit (.bool false)], args := [d] }
  | _ => none }
def FnExactBellowsOkWrongFalsely : Prop := fnExactBellowsOkRow.holds Try.pinned (OpenSpec.ofChange fnExactBellowsOkWrong)

/-- 'laws.FnExactCordOk': WHATEVER THE INPUT: true; the input reads as it did. -/
def fnExactCordOkSpec : ChangeSpec := { name := "fnExactCordOk", fn := fun _ => fun
  | [d] => { results := [.lit (.bool true)], args := [d] }
  | _ => none }
def fnExactCordOkRow : OpenClaim := { program := "ytiifemlnknochaa", sum := "b5d988d43f87018b06c60dad8b9523f26c4e184c7dcc658b0b3dd7bd6d1d83c4", func := "loop.example/g00989/laws.FnExactCordOk", spec := "fnExactCordOk", plainKeys := false, apart := false }
def FnExactCordOkSaid : Prop := fnExactCordOkRow.holds Try.pinned (OpenSpec.ofChange fnExactCordOkSpec)

/-- ITS FALSE NEIGHBOUR: 'it returns false'. Refute it at one input. -/
def fnExactCordOkWrong : ChangeSpec := { name := "fnExactCordOk", fn := fun _ => fun
  | [d] => { results := [.lit (.bool false)], args := [d] }
  | _ => none }
def FnExactCordOkWrongFalsely : Prop := fnExactCordOkRow.holds Try.pinned (OpenSpec.ofChange fnExactCordOkWrong)

/-- 'laws.FnExactRankOk': WHATEVER THE INPUT: true; the input reads as it did. -/
def fnExactRankOkSpec : ChangeSpec := { name := "fnExactRankOk", fn := fun _ => fun
  | [d] => { results := [.lit (.bool true)], args := [d] }
  | _ => none }
def fnExactRankOkRow : OpenClaim := { program := "ytiifemlnknochaa", sum := "b5d988d43f87018b06c60dad8b9523f26c4e184c7dcc658b0b3dd7bd6d1d83c4", func := "loop.example/g00989/laws.FnExactRankOk", spec := "fnExactRankOk", plainKeys := false, apart := false }
def FnExactRankOkSaid : Prop := fnExactRankOkRow.holds Try.pinned (OpenSpec.ofChange fnExactRankOkSpec)

/-- ITS FALSE NEIGHBOUR: 'it returns false'. Refute it at one input. -/
def fnExactRankOkWrong : ChangeSpec := { name := "fnExactRankOk", fn := fun _ => fun
  | [d] => { results := [.lit (.bool false)], args := [d] }
  | _ => none }
def FnExactRankOkWrongFalsely : Prop := fnExactRankOkRow.holds Try.pinned (OpenSpec.ofChange fnExactRankOkWrong)

/-- 'laws.FnExactStoppedLength': WHATEVER THE INPUT: true; the input reads as it did. -/
def fnExactStoppedLengthSpec : ChangeSpec := { name := "fnExactStoppedLength", fn := fun _ => fun
  | [d] => { results := [.lit (.bool true)], args := [d] }
  | _ => none }
def fnExactStoppedLengthRow : OpenClaim := { program := "ytiifemlnknochaa", sum := "b5d988d43f87018b06c60dad8b9523f26c4e184c7dcc658b0b3dd7bd6d1d83c4", func := "loop.example/g00989/laws.FnExactStoppedLength", spec := "fnExactStoppedLength", plainKeys := false, apart := false }
def FnExactStoppedLengthSaid : Prop := fnExactStoppedLengthRow.holds Try.pinned (OpenSpec.ofChange fnExactStoppedLengthSpec)

/-- ITS FALSE NEIGHBOUR: 'it returns false'. Refute it at one input. -/
def fnExactStoppedLengthWrong : ChangeSpec := { name := "fnExactStoppedLength", fn := fun _ => fun
  | [d] => { results := [.lit (.bool false)], args := [d] }
  | _ => none }
def FnExactStoppedLengthWrongFalsely : Prop := fnExactStoppedLengthRow.holds Try.pinned (OpenSpec.ofChange fnExactStoppedLengthWrong)

/-- 'laws.FnExactWarmPitch': WHATEVER THE INPUT: true; the input reads as it did. -/
def fnExactWarmPitchSpec : ChangeSpec := { name := "fnExactWarmPitch", fn := fun _ => fun
  | [d1, d2] => { results := [.lit (.bool true)], args := [d1, d2] }
  | _ => none }
def fnExactWarmPitchRow : OpenClaim := { program := "ytiifemlnknochaa", sum := "b5d988d43f87018b06c60dad8b9523f26c4e184c7dcc658b0b3dd7bd6d1d83c4", func := "loop.example/g00989/laws.FnExactWarmPitch", spec := "fnExactWarmPitch", plainKeys := false, apart := false }
def FnExactWarmPitchSaid : Prop := fnExactWarmPitchRow.holds Try.pinned (OpenSpec.ofChange fnExactWarmPitchSpec)

/-- ITS FALSE NEIGHBOUR: 'it returns false'. Refute it at one input. -/
def fnExactWarmPitchWrong : ChangeSpec := { name := "fnExactWarmPitch", fn := fun _ => fun
  | [d1, d2] => { results := [.lit (.bool false)], args := [d1, d2] }
  | _ => none }
def FnExactWarmPitchWrongFalsely : Prop := fnExactWarmPitchRow.holds Try.pinned (OpenSpec.ofChange fnExactWarmPitchWrong)

/-- 'laws.FnStops': WHATEVER THE INPUT: true; the input reads as it did. -/
def fnStopsSpec : ChangeSpec := { name := "fnStops", fn := fun _ => fun
  | [d] => { results := [.lit (.bool true)], args := [d] }
  | _ => none }
def fnStopsRow : OpenClaim := { program := "ytiifemlnknochaa", sum := "b5d988d43f87018b06c60dad8b9523f26c4e184c7dcc658b0b3dd7bd6d1d83c4", func := "loop.example/g00989/laws.FnStops", spec := "fnStops", inPlace := ["internal/reflectlite.ValueOf", "internal/reflectlite.Swapper", "(internal/reflectlite.Value).Len"], unfollowed := true, recurses := true, plainKeys := false, apart := false }
def FnStopsSaid : Prop := fnStopsRow.holds Try.pinned (OpenSpec.ofChange fnStopsSpec)

/-- ITS FALSE NEIGHBOUR: 'it returns false'. Refute it at one input. -/
def fnStopsWrong : ChangeSpec := { name := "fnStops", fn := fun _ => fun
  | [d] => { results := [.lit (.bool false)], args := [d] }
  | _ => none }
def FnStopsWrongFalsely : Prop := fnStopsRow.holds Try.pinned (OpenSpec.ofChange fnStopsWrong)

/-- 'laws.FnExactGlideSteps': WHATEVER THE INPUT: true; the input reads as it did. -/
def fnExactGlideStepsSpec : ChangeSpec := { name := "fnExactGlideSteps", fn := fun _ => fun
  | [d1, d2, d3] => { results := [.lit (.bool true)], args := [d1, d2, d3] }
  | _ => none }
def fnExactGlideStepsRow : OpenClaim := { program := "ytiifemlnknochaa", sum := "b5d988d43f87018b06c60dad8b9523f26c4e184c7dcc658b0b3dd7bd6d1d83c4", func := "loop.example/g00989/laws.FnExactGlideSteps", spec := "fnExactGlideSteps", plainKeys := false, apart := false }
def FnExactGlideStepsSaid : Prop := fnExactGlideStepsRow.holds Try.pinned (OpenSpec.ofChange fnExactGlideStepsSpec)

/-- ITS FALSE NEIGHBOUR: 'it returns false'. Refute it at one input. -/
def fnExactGlideStepsWrong : ChangeSpec := { name := "fnExactGlideSteps", fn := fun _ => fun
  | [d1, d2, d3] => { results := [.lit (.bool false)], args := [d1, d2, d3] }
  | _ => none }
def FnExactGlideStepsWrongFalsely : Prop := fnExactGlideStepsRow.holds Try.pinned (OpenSpec.ofChange fnExactGlideStepsWrong)

/-- 'laws.FnExactDiameterOf': WHATEVER THE INPUT: true; the input reads as it did. -/
def fnExactDiameterOfSpec : ChangeSpec := { name := "fnExactDiameterOf", fn := fun _ => fun
  | [d1, d2] => { results := [.lit (.bool true)], args := [d1, d2] }
  | _ => none }
def fnExactDiameterOfRow : OpenClaim := { program := "ytiifemlnknochaa", sum := "b5d988d43f87018b06c60dad8b9523f26c4e184c7dcc658b0b3dd7bd6d1d83c4", func := "loop.example/g00989/laws.FnExactDiameterOf", spec := "fnExactDiameterOf", plainKeys := false, apart := false }
def FnExactDiameterOfSaid : Prop := fnExactDiameterOfRow.holds Try.pinned (OpenSpec.ofChange fnExactDiameterOfSpec)

/-- ITS FALSE NEIGHBOUR: 'it returns false'. Refute it at one input. -/
def fnExactDiameterOfWrong : ChangeSpec := { name := "fnExactDiameterOf", fn := fun _ => fun
  | [d1, d2] => { results := [.lit (.bool false)], args := [d1, d2] }
  | _ => none }
def FnExactDiameterOfWrongFalsely : Prop := fnExactDiameterOfRow.holds Try.pinned (OpenSpec.ofChange fnExactDiameterOfWrong)

/-- 'laws.FnExactTensionAt': WHATEVER THE INPUT: true; the input reads as it did. -/
def fnExactTensionAtSpec : ChangeSpec := { name := "fnExactTensionAt", fn := fun _ => fun
  | [d1, d2] => { results := [.lit (.bool true)], args := [d1, d2] }
  | _ => none }
def fnExactTensionAtRow : OpenClaim := { program := "ytiifemlnknochaa", sum := "b5d988d43f87018b06c60dad8b9523f26c4e184c7dcc658b0b3dd7bd6d1d83c4", func := "loop.example/g00989/laws.FnExactTensionAt", spec := "fnExactTensionAt", plainKeys := false, apart := false }
def FnExactTensionAtSaid : Prop := fnExactTensionAtRow.holds Try.pinned (OpenSpec.ofChange fnExactTensionAtSpec)

/-- ITS FALSE NEIGHBOUR: 'it returns false'. Refute it at one input. -/
def fnExactTensionAtWrong : ChangeSpec := { name := "fnExactTensionAt", fn := fun _ => fun
  | [d1, d2] => { results := [.lit (.bool false)], args := [d1, d2] }
  | _ => none }
def FnExactTensionAtWrongFalsely : Prop := fnExactTensionAtRow.holds Try.pinned (OpenSpec.ofChange fnExactTensionAtWrong)

/-- 'laws.FnExactBreaks': WHATEVER THE INPUT: true; the input reads as it did. -/
def fnExactBreaksSpec : ChangeSpec := { name := "fnExactBreaks", fn := fun _ => fun
  | [d1, d2] => { results := [.lit (.bool true)], args := [d1, d2] }
  | _ => none }
def fnExactBreaksRow : OpenClaim := { program := "ytiifemlnknochaa", sum := "b5d988d43f87018b06c60dad8b9523f26c4e184c7dcc658b0b3dd7bd6d1d83c4", func := "loop.example/g00989/laws.FnExactBreaks", spec := "fnExactBreaks", plainKeys := false, apart := false }
def FnExactBreaksSaid : Prop := fnExactBreaksRow.holds Try.pinned (OpenSpec.ofChange fnExactBreaksSpec)

/-- ITS FALSE NEIGHBOUR: 'it returns false'. Refute it at one input. -/
def fnExactBreaksWrong : ChangeSpec := { name := "fnExactBreaks", fn := fun _ => fun
  | [d1, d2] => { results := [.lit (.bool false)], args := [d1, d2] }
  | _ => none }
def FnExactBreaksWrongFalsely : Prop := fnExactBreaksRow.holds Try.pinned (OpenSpec.ofChange fnExactBreaksWrong)

/-- 'laws.FnExactReedBeats': WHATEVER THE INPUT: true; the input reads as it did. -/
def fnExactReedBeatsSpec : ChangeSpec := { name := "fnExactReedBeats", fn := fun _ => fun
  | [d1, d2, d3] => { results := [.lit (.bool true)], args := [d1, d2, d3] }
  | _ => none }
def fnExactReedBeatsRow : OpenClaim := { program := "ytiifemlnknochaa", sum := "b5d988d43f87018b06c60dad8b9523f26c4e184c7dcc658b0b3dd7bd6d1d83c4", func := "loop.example/g00989/laws.FnExactReedBeats", spec := "fnExactReedBeats", plainKeys := false, apart := false }
def FnExactReedBeatsSaid : Prop := fnExactReedBeatsRow.holds Try.pinned (OpenSpec.ofChange fnExactReedBeatsSpec)

/-- ITS FALSE NEIGHBOUR: 'it returns false'. Refute it at one input. -/
def fnExactReedBeatsWrong : ChangeSpec := { name := "fnExactReedBeats", fn := fun _ => fun
  | [d1, d2, d3] => { results := [.lit (.bool false)], args := [d1, d2, d3] }
  | _ => none }
def FnExactReedBeatsWrongFalsely : Prop := fnExactReedBeatsRow.holds Try.pinned (OpenSpec.ofChange fnExactReedBeatsWrong)

/- THE SECOND FORM. 'bulk': how many values and letters a reading holds, each counted each time it is reached (what is shared counts as often as it is met; a slice's spare places count too). A statement '..UptoSaid' is the law's where the arguments, and the package variables that the reading takes, are together of bulk at most 1048576: NARROWER than '..Said'. Prove '..Said' where nothing that the law and all that it calls make is longer than what came in: it says more and counts as full. Else prove '..UptoSaid'. A law counts once. -/
mutual
def uptoBulk {H : Type} : DataW H → Nat
  | .lit (.string bytes) => bytes.length + 1
  | .lit _ => 1
  | .nil => 1
  | .ptr d => uptoBulk d + 1
  | .slice elems spare => uptoBulkAll elems + uptoBulkAll spare + 1
  | .agg parts => uptoBulkAll parts + 1
  | .iface _ d => uptoBulk d + 1
  | .map entries => uptoBulkEntries entries + 1
  | .held _ => 1
def uptoBulkAll {H : Type} : List (DataW H) → Nat
  | [] => 0
  | d :: r => uptoBulk d + uptoBulkAll r
def uptoBulkEntries {H : Type} : List (Lit × DataW H) → Nat
  | [] => 0
  | x :: r => uptoBulkEntry x + uptoBulkEntries r
def uptoBulkEntry {H : Type} : Lit × DataW H → Nat
  | (.string bytes, d) => bytes.length + uptoBulk d + 1
  | (_, d) => uptoBulk d + 1
 end
def uptoSmall : (H : Type) → List (DataW H) → Bool := fun _ ds => decide (uptoBulkAll ds ≤ 1048576)
def OpenSpec.upto (s : _root_.Go.ChangeSpec) : _root_.Go.OpenSpec := { _root_.Go.OpenSpec.ofChange s with cond := some uptoSmall }

/-- 'laws.FnExactLengthOf', WHERE WHAT IT READS IS OF BULK AT MOST 1048576: true; the input reads as it did. -/
def fnExactLengthOfUptoRow : OpenClaim := { program := "ytiifemlnknochaa", sum := "b5d988d43f87018b06c60dad8b9523f26c4e184c7dcc658b0b3dd7bd6d1d83c4", func := "loop.example/g00989/laws.FnExactLengthOf", spec := "fnExactLengthOf", plainKeys := false, apart := false, narrowed := true }
def FnExactLengthOfUptoSaid : Prop := fnExactLengthOfUptoRow.holds Try.pinned (OpenSpec.upto fnExactLengthOfSpec)

/-- 'laws.FnExactBellowsOk', WHERE WHAT IT READS IS OF BULK AT MOST 1048576: true; the input reads as it did. -/
def fnExactBellowsOkUptoRow : OpenClaim := { program := "ytiifemlnknochaa", sum := "b5d988d43f87018b06c60dad8b9523f26c4e184c7dcc658b0b3dd7bd6d1d83c4", func := "loop.example/g00989/laws.FnExactBellowsOk", spec := "fnExactBellowsOk", plainKeys := false, apart := false, narrowed := true }
def FnExactBellowsOkUptoSaid : Prop := fnExactBellowsOkUptoRow.holds Try.pinned (OpenSpec.upto fnExactBellowsOkSpec)

/-- 'laws.FnExactCordOk', WHERE WHAT IT READS IS OF BULK AT MOST 1048576: true; the input reads as it did. -/
def fnExactCordOkUptoRow : OpenClaim := { program := "ytiifemlnknochaa", sum := "b5d988d43f87018b06c60dad8b9523f26c4e184c7dcc658b0b3dd7bd6d1d83c4", func := "loop.example/g00989/laws.FnExactCordOk", spec := "fnExactCordOk", plainKeys := false, apart := false, narrowed := true }
def FnExactCordOkUptoSaid : Prop := fnExactCordOkUptoRow.holds Try.pinned (OpenSpec.upto fnExactCordOkSpec)

/-- 'laws.FnExactRankOk', WHERE WHAT IT READS IS OF BULK AT MOST 1048576: true; the input reads as it did. -/
def fnExactRankOkUptoRow : OpenClaim := { program := "ytiifemlnknochaa", sum := "b5d988d43f87018b06c60dad8b9523f26c4e184c7dcc658b0b3dd7bd6d1d83c4", func := "loop.example/g00989/laws.FnExactRankOk", spec := "fnExactRankOk", plainKeys := false, apart := false, narrowed := true }
def FnExactRankOkUptoSaid : Prop := fnExactRankOkUptoRow.holds Try.pinned (OpenSpec.upto fnExactRankOkSpec)

/-- 'laws.FnExactStoppedLength', WHERE WHAT IT READS IS OF BULK AT MOST 1048576: true; the input reads as it did. -/
def fnExactStoppedLengthUptoRow : OpenClaim := { program := "ytiifemlnknochaa", sum := "b5d988d43f87018b06c60dad8b9523f26c4e184c7dcc658b0b3dd7bd6d1d83c4", func := "loop.example/g00989/laws.FnExactStoppedLength", spec := "fnExactStoppedLength", plainKeys := false, apart := false, narrowed := true }
def FnExactStoppedLengthUptoSaid : Prop := fnExactStoppedLengthUptoRow.holds Try.pinned (OpenSpec.upto fnExactStoppedLengthSpec)

/-- 'laws.FnExactWarmPitch', WHERE WHAT IT READS IS OF BULK AT MOST 1048576: true; the input reads as it did. -/
def fnExactWarmPitchUptoRow : OpenClaim := { program := "ytiifemlnknochaa", sum := "b5d988d43f87018b06c60dad8b9523f26c4e184c7dcc658b0b3dd7bd6d1d83c4", func := "loop.example/g00989/laws.FnExactWarmPitch", spec := "fnExactWarmPitch", plainKeys := false, apart := false, narrowed := true }
def FnExactWarmPitchUptoSaid : Prop := fnExactWarmPitchUptoRow.holds Try.pinned (OpenSpec.upto fnExactWarmPitchSpec)

/-- 'laws.FnStops', WHERE WHAT IT READS IS OF BULK AT MOST 1048576: true; the input reads as it did. -/
def fnStopsUptoRow : OpenClaim := { program := "ytiifemlnknochaa", sum := "b5d988d43f87018b06c60dad8b9523f26c4e184c7dcc658b0b3dd7bd6d1d83c4", func := "loop.example/g00989/laws.FnStops", spec := "fnStops", inPlace := ["internal/reflectlite.ValueOf", "internal/reflectlite.Swapper", "(internal/reflectlite.Value).Len"], unfollowed := true, recurses := true, plainKeys := false, apart := false, narrowed := true }
def FnStopsUptoSaid : Prop := fnStopsUptoRow.holds Try.pinned (OpenSpec.upto fnStopsSpec)

/-- 'laws.FnExactGlideSteps', WHERE WHAT IT READS IS OF BULK AT MOST 1048576: true; the input reads as it did. -/
def fnExactGlideStepsUptoRow : OpenClaim := { program := "ytiifemlnknochaa", sum := "b5d988d43f87018b06c60dad8b9523f26c4e184c7dcc658b0b3dd7bd6d1d83c4", func := "loop.example/g00989/laws.FnExactGlideSteps", spec := "fnExactGlideSteps", plainKeys := false, apart := false, narrowed := true }
def FnExactGlideStepsUptoSaid : Prop := fnExactGlideStepsUptoRow.holds Try.pinned (OpenSpec.upto fnExactGlideStepsSpec)

/-- 'laws.FnExactDiameterOf', WHERE WHAT IT READS IS OF BULK AT MOST 1048576: true; the input reads as it did. -/
def fnExactDiameterOfUptoRow : OpenClaim := { program := "ytiifemlnknochaa", sum := "b5d988d43f87018b06c60dad8b9523f26c4e184c7dcc658b0b3dd7bd6d1d83c4", func := "loop.example/g00989/laws.FnExactDiameterOf", spec := "fnExactDiameterOf", plainKeys := false, apart := false, narrowed := true }
def FnExactDiameterOfUptoSaid : Prop := fnExactDiameterOfUptoRow.holds Try.pinned (OpenSpec.upto fnExactDiameterOfSpec)

/-- 'laws.FnExactTensionAt', WHERE WHAT IT READS IS OF BULK AT MOST 1048576: true; the input reads as it did. -/
def fnExactTensionAtUptoRow : OpenClaim := { program := "ytiifemlnknochaa", sum := "b5d988d43f87018b06c60dad8b9523f26c4e184c7dcc658b0b3dd7bd6d1d83c4", func := "loop.example/g00989/laws.FnExactTensionAt", spec := "fnExactTensionAt", plainKeys := false, apart := false, narrowed := true }
def FnExactTensionAtUptoSaid : Prop := fnExactTensionAtUptoRow.holds Try.pinned (OpenSpec.upto fnExactTensionAtSpec)

/-- 'laws.FnExactBreaks', WHERE WHAT IT READS IS OF BULK AT MOST 1048576: true; the input reads as it did. -/
def fnExactBreaksUptoRow : OpenClaim := { program := "ytiifemlnknochaa", sum := "b5d988d43f87018b06c60dad8b9523f26c4e184c7dcc658b0b3dd7bd6d1d83c4", func := "loop.example/g00989/laws.FnExactBreaks", spec := "fnExactBreaks", plainKeys := false, apart := false, narrowed := true }
def FnExactBreaksUptoSaid : Prop := fnExactBreaksUptoRow.holds Try.pinned (OpenSpec.upto fnExactBreaksSpec)

/-- 'laws.FnExactReedBeats', WHERE WHAT IT READS IS OF BULK AT MOST 1048576: true; the input reads as it did. -/
def fnExactReedBeatsUptoRow : OpenClaim := { program := "ytiifemlnknochaa", sum := "b5d988d43f87018b06c60dad8b9523f26c4e184c7dcc658b0b3dd7bd6d1d83c4", func := "loop.example/g00989/laws.FnExactReedBeats", spec := "fnExactReedBeats", plainKeys := false, apart := false, narrowed := true }
def FnExactReedBeatsUptoSaid : Prop := fnExactReedBeatsUptoRow.holds Try.pinned (OpenSpec.upto fnExactReedBeatsSpec)

end Rows
end Go.Proofs.Ytiifemlnknochaa
