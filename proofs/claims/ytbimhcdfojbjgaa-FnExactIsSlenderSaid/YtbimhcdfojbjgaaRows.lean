/-
  No cell of these rows narrows 'for every input' (looked for: loops, veiled, ifaces, maps, wideKeys, modest, calm, conditions, laid).
  DERIVED. THE GIVEN ROWS OF THIS SEAT. 12 by the template 'for every input the law returns true; each argument reads behind the call as it read before'; 0 by the template 'total and deterministic' (their statements: YtbimhcdfojbjgaaTotals.lean).
  GIVEN WITH THE SEED: the statements are not yours to turn. If you find one false, say at which input.
  Laid BY PROGRAM, IN A SANDBOX (cutbox-rows.mjs): the forced cells as the released guide's own fill.sh prints them over the translation 25128234c5802be2… (all of the seat's roots in one cut). By AI agents, Wed Nov 11 2026. No macro, syntax, notation, axiom, sorry.
-/
import Derived.Test.YtbimhcdfojbjgaaChecked
import GoSem.Claim
import GoSem.ClaimJoined
import GoSem.ClaimMapViews
import Derived.JoinedTies
import Derived.KernelRfl
namespace Go.Proofs.Ytbimhcdfojbjgaa
/- THE CELL 'sum', in the pinned program and in every row, IS THE sha256 OF THE DUMP (.gsa) THAT YtbimhcdfojbjgaaProg.lean LOADS. Nothing in Lean hashes anything: it is a label: what it is worth is what the hold of that sum in a sandbox is worth. -/
noncomputable def Try.pinned : Pinned := { name := "ytbimhcdfojbjgaa", sum := "25128234c5802be263f22e73b9cc66b8014cc5663c2402bb1f2ae0bd4b1c1edb", checked := Try.checked }
namespace Rows
def none {H : Type} : Left H := { results := [], args := [] }

/-- 'laws.FnExactCountPipes': WHATEVER THE INPUT: true; the input reads as it did. -/
def fnExactCountPipesSpec : ChangeSpec := { name := "fnExactCountPipes", fn := fun _ => fun
  | [d1, d2, d3] => { results := [.lit (.bool true)], args := [d1, d2, d3] }
  | _ => none }
def fnExactCountPipesRow : OpenClaim := { program := "ytbimhcdfojbjgaa", sum := "25128234c5802be263f22e73b9cc66b8014cc5663c2402bb1f2ae0bd4b1c1edb", func := "loop.example/g00989/laws.FnExactCountPipes", spec := "fnExactCountPipes", inPlace := ["internal/reflectlite.ValueOf", "internal/reflectlite.Swapper", "(internal/reflectlite.Value).Len"], unfollowed := true, recurses := true, plainKeys := false, apart := false }
def FnExactCountPipesSaid : Prop := fnExactCountPipesRow.holds Try.pinned (OpenSpec.ofChange fnExactCountPipesSpec)

/-- ITS FALSE NEIGHBOUR: 'it returns false'. Refute it at one input. -/
def fnExactCountPipesWrong : ChangeSpec := { name := "fnExactCountPipes", fn := fun _ => fun
  | [d1, d2, d3] => { results := [.lit (.bool false)], args := [d1, d2, d3] }
  | _ => none }
def FnExactCountPipesWrongFalsely : Prop := fnExactCountPipesRow.holds Try.pinned (OpenSpec.ofChange fnExactCountPipesWrong)

/-- 'laws.FnExactGlideStep': WHATEVER THE INPUT: true; the input reads as it did. -/
def fnExactGlideStepSpec : ChangeSpec := { name := "fnExactGlideStep", fn := fun _ => fun
  | [d1, d2, d3] => { results := [.lit (.bool true)], args := [d1, d2, d3] }
  | _ => none }
def fnExactGlideStepRow : OpenClaim := { program := "ytbimhcdfojbjgaa", sum := "25128234c5802be263f22e73b9cc66b8014cc5663c2402bb1f2ae0bd4b1c1edb", func := "loop.example/g00989/laws.FnExactGlideStep", spec := "fnExactGlideStep", plainKeys := false, apart := false }
def FnExactGlideStepSaid : Prop := fnExactGlideStepRow.holds Try.pinned (OpenSpec.ofChange fnExactGlideStepSpec)

/-- ITS FALSE NEIGHBOUR: 'it returns false'. Refute it at one input. -/
def fnExactGlideStepWrong : ChangeSpec := { name := "fnExactGlideStep", fn := fun _ => fun
  | [d1, d2, d3] => { results := [.lit (.bool false)], args := [d1, d2, d3] }
  | _ => none }
def FnExactGlideStepWrongFalsely : Prop := fnExactGlideStepRow.holds Try.pinned (OpenSpec.ofChange fnExactGlideStepWrong)

/-- 'laws.FnExactChordShape': WHATEVER THE INPUT: true; the input reads as it did. -/
def fnExactChordShapeSpec : ChangeSpec := { name := "fnExactChordShape", fn := fun _ => fun
  | [d] => { results := [.lit (.bool true)], args := [d] }
  | _ => none }
def fnExactChordShapeRow : OpenClaim := { program := "ytbimhcdfojbjgaa", sum := "25128234c5802be263f22e73b9cc66b8014cc5663c2402bb1f2ae0bd4b1c1edb", func := "loop.example/g00989/laws.FnExactChordShape", spec := "fnExactChordShape", plainKeys := false, apart := false }
def FnExactChordShapeSaid : Prop := fnExactChordShapeRow.holds Try.pinned (OpenSpec.ofChange fnExactChordShapeSpec)

/-- ITS FALSE NEIGHBOUR: 'it returns false'. Refute it at one input. -/
def fnExactChordShapeWrong : ChangeSpec := { name := "fnExactChordShape", fn := fun _ => fun
  | [d] => { results := [.lit (.bool false)], args := [d] }
  | _ => none }
def FnExactChordShapeWrongFalsely : Prop := fnExactChordShapeRow.holds Try.pinned (OpenSpec.ofChange fnExactChordShapeWrong)

/-- 'laws.FnExactUsualPitch': WHATEVER THE INPUT: true; the input reads as it did. -/
def fnExactUsualPitchSpec : ChangeSpec := { name := "fnExactUsualPitch", fn := fun _ => fun
  | [d1, d2] => { results := [.lit (.bool true)], args := [d1, d2] }
  | _ => none }
def fnExactUsualPitchRow : OpenClaim := { program := "ytbimhcdfojbjgaa", sum := "25128234c5802be263f22e73b9cc66b8014cc5663c2402bb1f2ae0bd4b1c1edb", func := "loop.example/g00989/laws.FnExactUsualPitch", spec := "fnExactUsualPitch", plainKeys := false, apart := false }
def FnExactUsualPitchSaid : Prop := fnExactUsualPitchRow.holds Try.pinned (OpenSpec.ofChange fnExactUsualPitchSpec)

/-- ITS FALSE NEIGHBOUR: 'it returns false'. Refute it at one input. -/
def fnExactUsualPitchWrong : ChangeSpec := { name := "fnExactUsualPitch", fn := fun _ => fun
  | [d1, d2] => { results := [.lit (.bool false)], args := [d1, d2] }
  | _ => none }
def FnExactUsualPitchWrongFalsely : Prop := fnExactUsualPitchRow.holds Try.pinned (OpenSpec.ofChange fnExactUsualPitchWrong)

/-- 'laws.FnExactBlowStep': WHATEVER THE INPUT: true; the input reads as it did. -/
def fnExactBlowStepSpec : ChangeSpec := { name := "fnExactBlowStep", fn := fun _ => fun
  | [d1, d2] => { results := [.lit (.bool true)], args := [d1, d2] }
  | _ => none }
def fnExactBlowStepRow : OpenClaim := { program := "ytbimhcdfojbjgaa", sum := "25128234c5802be263f22e73b9cc66b8014cc5663c2402bb1f2ae0bd4b1c1edb", func := "loop.example/g00989/laws.FnExactBlowStep", spec := "fnExactBlowStep", plainKeys := false, apart := false }
def FnExactBlowStepSaid : Prop := fnExactBlowStepRow.holds Try.pinned (OpenSpec.ofChange fnExactBlowStepSpec)

/-- ITS FALSE NEIGHBOUR: 'it returns false'. Refute it at one input. -/
def fnExactBlowStepWrong : ChangeSpec := { name := "fnExactBlowStep", fn := fun _ => fun
  | [d1, d2] => { results := [.lit (.bool false)], args := [d1, d2] }
  | _ => none }
def FnExactBlowStepWrongFalsely : Prop := fnExactBlowStepRow.holds Try.pinned (OpenSpec.ofChange fnExactBlowStepWrong)

/-- 'laws.FnExactIsSlender': WHATEVER THE INPUT: true; the input reads as it did. -/
def fnExactIsSlenderSpec : ChangeSpec := { name := "fnExactIsSlender", fn := fun _ => fun
  | [d1, d2, d3] => { results := [.lit (.bool true)], args := [d1, d2, d3] }
  | _ => none }
def fnExactIsSlenderRow : OpenClaim := { program := "ytbimhcdfojbjgaa", sum := "25128234c5802be263f22e73b9cc66b8014cc5663c2402bb1f2ae0bd4b1c1edb", func := "loop.example/g00989/laws.FnExactIsSlender", spec := "fnExactIsSlender", plainKeys := false, apart := false }
def FnExactIsSlenderSaid : Prop := fnExactIsSlenderRow.holds Try.pinned (OpenSpec.ofChange fnExactIsSlenderSpec)

/-- ITS FALSE NEIGHBOUR: 'it returns false'. Refute it at one input. -/
def fnExactIsSlenderWrong : ChangeSpec := { name := "fnExactIsSlender", fn := fun _ => fun
  | [d1, d2, d3] => { results := [.lit (.bool false)], args := [d1, d2, d3] }
  | _ => none }
def FnExactIsSlenderWrongFalsely : Prop := fnExactIsSlenderRow.holds Try.pinned (OpenSpec.ofChange fnExactIsSlenderWrong)

/-- 'laws.FnExactHighestPitch': WHATEVER THE INPUT: true; the input reads as it did. -/
def fnExactHighestPitchSpec : ChangeSpec := { name := "fnExactHighestPitch", fn := fun _ => fun
  | [d] => { results := [.lit (.bool true)], args := [d] }
  | _ => none }
def fnExactHighestPitchRow : OpenClaim := { program := "ytbimhcdfojbjgaa", sum := "25128234c5802be263f22e73b9cc66b8014cc5663c2402bb1f2ae0bd4b1c1edb", func := "loop.example/g00989/laws.FnExactHighestPitch", spec := "fnExactHighestPitch", plainKeys := false, apart := false }
def FnExactHighestPitchSaid : Prop := fnExactHighestPitchRow.holds Try.pinned (OpenSpec.ofChange fnExactHighestPitchSpec)

/-- ITS FALSE NEIGHBOUR: 'it returns false'. Refute it at one input. -/
def fnExactHighestPitchWrong : ChangeSpec := { name := "fnExactHighestPitch", fn := fun _ => fun
  | [d] => { results := [.lit (.bool false)], args := [d] }
  | _ => none }
def FnExactHighestPitchWrongFalsely : Prop := fnExactHighestPitchRow.holds Try.pinned (OpenSpec.ofChange fnExactHighestPitchWrong)

/-- 'laws.FnExactPipesFor': WHATEVER THE INPUT: true; the input reads as it did. -/
def fnExactPipesForSpec : ChangeSpec := { name := "fnExactPipesFor", fn := fun _ => fun
  | [d1, d2, d3] => { results := [.lit (.bool true)], args := [d1, d2, d3] }
  | _ => none }
def fnExactPipesForRow : OpenClaim := { program := "ytbimhcdfojbjgaa", sum := "25128234c5802be263f22e73b9cc66b8014cc5663c2402bb1f2ae0bd4b1c1edb", func := "loop.example/g00989/laws.FnExactPipesFor", spec := "fnExactPipesFor", inPlace := ["internal/reflectlite.ValueOf", "internal/reflectlite.Swapper", "(internal/reflectlite.Value).Len"], unfollowed := true, recurses := true, plainKeys := false, apart := false }
def FnExactPipesForSaid : Prop := fnExactPipesForRow.holds Try.pinned (OpenSpec.ofChange fnExactPipesForSpec)

/-- ITS FALSE NEIGHBOUR: 'it returns false'. Refute it at one input. -/
def fnExactPipesForWrong : ChangeSpec := { name := "fnExactPipesFor", fn := fun _ => fun
  | [d1, d2, d3] => { results := [.lit (.bool false)], args := [d1, d2, d3] }
  | _ => none }
def FnExactPipesForWrongFalsely : Prop := fnExactPipesForRow.holds Try.pinned (OpenSpec.ofChange fnExactPipesForWrong)

/-- 'laws.FnExactBestWarmth': WHATEVER THE INPUT: true; the input reads as it did. -/
def fnExactBestWarmthSpec : ChangeSpec := { name := "fnExactBestWarmth", fn := fun _ => fun
  | [d1, d2] => { results := [.lit (.bool true)], args := [d1, d2] }
  | _ => none }
def fnExactBestWarmthRow : OpenClaim := { program := "ytbimhcdfojbjgaa", sum := "25128234c5802be263f22e73b9cc66b8014cc5663c2402bb1f2ae0bd4b1c1edb", func := "loop.example/g00989/laws.FnExactBestWarmth", spec := "fnExactBestWarmth", plainKeys := false, apart := false }
def FnExactBestWarmthSaid : Prop := fnExactBestWarmthRow.holds Try.pinned (OpenSpec.ofChange fnExactBestWarmthSpec)

/-- ITS FALSE NEIGHBOUR: 'it returns false'. Refute it at one input. -/
def fnExactBestWarmthWrong : ChangeSpec := { name := "fnExactBestWarmth", fn := fun _ => fun
  | [d1, d2] => { results := [.lit (.bool false)], args := [d1, d2] }
  | _ => none }
def FnExactBestWarmthWrongFalsely : Prop := fnExactBestWarmthRow.holds Try.pinned (OpenSpec.ofChange fnExactBestWarmthWrong)

/-- 'laws.FnExactStopsOk': WHATEVER THE INPUT: true; the input reads as it did. -/
def fnExactStopsOkSpec : ChangeSpec := { name := "fnExactStopsOk", fn := fun _ => fun
  | [d] => { results := [.lit (.bool true)], args := [d] }
  | _ => none }
def fnExactStopsOkRow : OpenClaim := { program := "ytbimhcdfojbjgaa", sum := "25128234c5802be263f22e73b9cc66b8014cc5663c2402bb1f2ae0bd4b1c1edb", func := "loop.example/g00989/laws.FnExactStopsOk", spec := "fnExactStopsOk", plainKeys := false, apart := false }
def FnExactStopsOkSaid : Prop := fnExactStopsOkRow.holds Try.pinned (OpenSpec.ofChange fnExactStopsOkSpec)

/-- ITS FALSE NEIGHBOUR: 'it returns false'. Refute it at one input. -/
def fnExactStopsOkWrong : ChangeSpec := { name := "fnExactStopsOk", fn := fun _ => fun
  | [d] => { results := [.lit (.bool false)], args := [d] }
  | _ => none }
def FnExactStopsOkWrongFalsely : Prop := fnExactStopsOkRow.holds Try.pinned (OpenSpec.ofChange fnExactStopsOkWrong)

/-- 'laws.FnExactLongestFor': WHATEVER THE INPUT: true; the input reads as it did. -/
def fnExactLongestForSpec : ChangeSpec := { name := "fnExactLongestFor", fn := fun _ => fun
  | [d1, d2] => { results := [.lit (.bool true)], args := [d1, d2] }
  | _ => none }
def fnExactLongestForRow : OpenClaim := { program := "ytbimhcdfojbjgaa", sum := "25128234c5802be263f22e73b9cc66b8014cc5663c2402bb1f2ae0bd4b1c1edb", func := "loop.example/g00989/laws.FnExactLongestFor", spec := "fnExactLongestFor", plainKeys := false, apart := false }
def FnExactLongestForSaid : Prop := fnExactLongestForRow.holds Try.pinned (OpenSpec.ofChange fnExactLongestForSpec)

/-- ITS FALSE NEIGHBOUR: 'it returns false'. Refute it at one input. -/
def fnExactLongestForWrong : ChangeSpec := { name := "fnExactLongestFor", fn := fun _ => fun
  | [d1, d2] => { results := [.lit (.bool false)], args := [d1, d2] }
  | _ => none }
def FnExactLongestForWrongFalsely : Prop := fnExactLongestForRow.holds Try.pinned (OpenSpec.ofChange fnExactLongestForWrong)

/-- 'laws.FnExactLongestNote': WHATEVER THE INPUT: true; the input reads as it did. -/
def fnExactLongestNoteSpec : ChangeSpec := { name := "fnExactLongestNote", fn := fun _ => fun
  | [d1, d2] => { results := [.lit (.bool true)], args := [d1, d2] }
  | _ => none }
def fnExactLongestNoteRow : OpenClaim := { program := "ytbimhcdfojbjgaa", sum := "25128234c5802be263f22e73b9cc66b8014cc5663c2402bb1f2ae0bd4b1c1edb", func := "loop.example/g00989/laws.FnExactLongestNote", spec := "fnExactLongestNote", plainKeys := false, apart := false }
def FnExactLongestNoteSaid : Prop := fnExactLongestNoteRow.holds Try.pinned (OpenSpec.ofChange fnExactLongestNoteSpec)

/-- ITS FALSE NEIGHBOUR: 'it returns false'. Refute it at one input. -/
def fnExactLongestNoteWrong : ChangeSpec := { name := "fnExactLongestNote", fn := fun _ => fun
  | [d1, d2] => { results := [.lit (.bool false)], args := [d1, d2] }
  | _ => none }
def FnExactLongestNoteWrongFalsely : Prop := fnExactLongestNoteRow.holds Try.pinned (OpenSpec.ofChange fnExactLongestNoteWrong)

/- THE SECOND FORM. 'bulk': how many values and letters a reading holds, each counted each time it is reached (what is shared counts as often as it is met; a slice's spare places count too). A statement '..UptoSaid' is the law's where the arguments, and the package variables that the reading takes, are together of bulk at most 1048576: NARROWER than '..Said'. Prove '..Said' where nothing that the law and all that it calls make is longer than what came in: it says more and counts as full. Else prove '..UptoSaid'. A law counts once. -/
mutual
def uptoBulk {H : Type} : DataW H → Nat
  | .lit (.string bytes) => bytes.length + 1
  | .lit _ => 1
  | .nil => 1
  | .ptr d => uptoBulk d + 1
  | .slice elems spare => uptoBulkAll elems + uptoBulkAll spare + 1
  | .agg parts => uptoBulkAll parts + 1
  | .iface _ d => uptoBulk d + 1
  | .map entries => uptoBulkEntries entries + 1
  | .held _ => 1
def uptoBulkAll {H : Type} : List (DataW H) → Nat
  | [] => 0
  | d :: r => uptoBulk d + uptoBulkAll r
def uptoBulkEntries {H : Type} : List (Lit × DataW H) → Nat
  | [] => 0
  | x :: r => uptoBulkEntry x + uptoBulkEntries r
def uptoBulkEntry {H : Type} : Lit × DataW H → Nat
  | (.string bytes, d) => bytes.length + uptoBulk d + 1
  | (_, d) => uptoBulk d + 1
 end
def uptoSmall : (H : Type) → List (DataW H) → Bool := fun _ ds => decide (uptoBulkAll ds ≤ 1048576)
def OpenSpec.upto (s : _root_.Go.ChangeSpec) : _root_.Go.OpenSpec := { _root_.Go.OpenSpec.ofChange s with cond := some uptoSmall }

/-- 'laws.FnExactCountPipes', WHERE WHAT IT READS IS OF BULK AT MOST 1048576: true; the input reads as it did. -/
def fnExactCountPipesUptoRow : OpenClaim := { program := "ytbimhcdfojbjgaa", sum := "25128234c5802be263f22e73b9cc66b8014cc5663c2402bb1f2ae0bd4b1c1edb", func := "loop.example/g00989/laws.FnExactCountPipes", spec := "fnExactCountPipes", inPlace := ["internal/reflectlite.ValueOf", "internal/reflectlite.Swapper", "(internal/reflectlite.Value).Len"], unfollowed := true, recurses := true, plainKeys := false, apart := false, narrowed := true }
def FnExactCountPipesUptoSaid : Prop := fnExactCountPipesUptoRow.holds Try.pinned (OpenSpec.upto fnExactCountPipesSpec)

/-- 'laws.FnExactGlideStep', WHERE WHAT IT READS IS OF BULK AT MOST 1048576: true; the input reads as it did. -/
def fnExactGlideStepUptoRow : OpenClaim := { program := "ytbimhcdfojbjgaa", sum := "25128234c5802be263f22e73b9cc66b8014cc5663c2402bb1f2ae0bd4b1c1edb", func := "loop.example/g00989/laws.FnExactGlideStep", spec := "fnExactGlideStep", plainKeys := false, apart := false, narrowed := true }
def FnExactGlideStepUptoSaid : Prop := fnExactGlideStepUptoRow.holds Try.pinned (OpenSpec.upto fnExactGlideStepSpec)

/-- 'laws.FnExactChordShape', WHERE WHAT IT READS IS OF BULK AT MOST 1048576: true; the input reads as it did. -/
def fnExactChordShapeUptoRow : OpenClaim := { program := "ytbimhcdfojbjgaa", sum := "25128234c5802be263f22e73b9cc66b8014cc5663c2402bb1f2ae0bd4b1c1edb", func := "loop.example/g00989/laws.FnExactChordShape", spec := "fnExactChordShape", plainKeys := false, apart := false, narrowed := true }
def FnExactChordShapeUptoSaid : Prop := fnExactChordShapeUptoRow.holds Try.pinned (OpenSpec.upto fnExactChordShapeSpec)

/-- 'laws.FnExactUsualPitch', WHERE WHAT IT READS IS OF BULK AT MOST 1048576: true; the input reads as it did. -/
def fnExactUsualPitchUptoRow : OpenClaim := { program := "ytbimhcdfojbjgaa", sum := "25128234c5802be263f22e73b9cc66b8014cc5663c2402bb1f2ae0bd4b1c1edb", func := "loop.example/g00989/laws.FnExactUsualPitch", spec := "fnExactUsualPitch", plainKeys := false, apart := false, narrowed := true }
def FnExactUsualPitchUptoSaid : Prop := fnExactUsualPitchUptoRow.holds Try.pinned (OpenSpec.upto fnExactUsualPitchSpec)

/-- 'laws.FnExactBlowStep', WHERE WHAT IT READS IS OF BULK AT MOST 1048576: true; the input reads as it did. -/
def fnExactBlowStepUptoRow : OpenClaim := { program := "ytbimhcdfojbjgaa", sum := "25128234c5802be263f22e73b9cc66b8014cc5663c2402bb1f2ae0bd4b1c1edb", func := "loop.example/g00989/laws.FnExactBlowStep", spec := "fnExactBlowStep", plainKeys := false, apart := false, narrowed := true }
def FnExactBlowStepUptoSaid : Prop := fnExactBlowStepUptoRow.holds Try.pinned (OpenSpec.upto fnExactBlowStepSpec)

/-- 'laws.FnExactIsSlender', WHERE WHAT IT READS IS OF BULK AT MOST 1048576: true; the input reads as it did. -/
def fnExactIsSlenderUptoRow : OpenClaim := { program := "ytbimhcdfojbjgaa", sum := "25128234c5802be263f22e73b9cc66b8014cc5663c2402bb1f2ae0bd4b1c1edb", func := "loop.example/g00989/laws.FnExactIsSlender", spec := "fnExactIsSlender", plainKeys := false, apart := false, narrowed := true }
def FnExactIsSlenderUptoSaid : Prop := fnExactIsSlenderUptoRow.holds Try.pinned (OpenSpec.upto fnExactIsSlenderSpec)

/-- 'laws.FnExactHighestPitch', WHERE WHAT IT READS IS OF BULK AT MOST 1048576: true; the input reads as it did. -/
def fnExactHighestPitchUptoRow : OpenClaim := { program := "ytbimhcdfojbjgaa", sum := "25128234c5802be263f22e73b9cc66b8014cc5663c2402bb1f2ae0bd4b1c1edb", func := "loop.example/g00989/laws.FnExactHighestPitch", spec := "fnExactHighestPitch", plainKeys := false, apart := false, narrowed := true }
def FnExactHighestPitchUptoSaid : Prop := fnExactHighestPitchUptoRow.holds Try.pinned (OpenSpec.upto fnExactHighestPitchSpec)

/-- 'laws.FnExactPipesFor', WHERE WHAT IT READS IS OF BULK AT MOST 1048576: true; the input reads as it did. -/
def fnExactPipesForUptoRow : OpenClaim := { program := "ytbimhcdfojbjgaa", sum := "25128234c5802be263f22e73b9cc66b8014cc5663c2402bb1f2ae0bd4b1c1edb", func := "loop.example/g00989/laws.FnExactPipesFor", spec := "fnExactPipesFor", inPlace := ["internal/reflectlite.ValueOf", "internal/reflectlite.Swapper", "(internal/reflectlite.Value).Len"], unfollowed := true, recurses := true, plainKeys := false, apart := false, narrowed := true }
def FnExactPipesForUptoSaid : Prop := fnExactPipesForUptoRow.holds Try.pinned (OpenSpec.upto fnExactPipesForSpec)

/-- 'laws.FnExactBestWarmth', WHERE WHAT IT READS IS OF BULK AT MOST 1048576: true; the input reads as it did. -/
def fnExactBestWarmthUptoRow : OpenClaim := { program := "ytbimhcdfojbjgaa", sum := "25128234c5802be263f22e73b9cc66b8014cc5663c2402bb1f2ae0bd4b1c1edb", func := "loop.example/g00989/laws.FnExactBestWarmth", spec := "fnExactBestWarmth", plainKeys := false, apart := false, narrowed := true }
def FnExactBestWarmthUptoSaid : Prop := fnExactBestWarmthUptoRow.holds Try.pinned (OpenSpec.upto fnExactBestWarmthSpec)

/-- 'laws.FnExactStopsOk', WHERE WHAT IT READS IS OF BULK AT MOST 1048576: true; the input reads as it did. -/
def fnExactStopsOkUptoRow : OpenClaim := { program := "ytbimhcdfojbjgaa", sum := "25128234c5802be263f22e73b9cc66b8014cc5663c2402bb1f2ae0bd4b1c1edb", func := "loop.example/g00989/laws.FnExactStopsOk", spec := "fnExactStopsOk", plainKeys := false, apart := false, narrowed := true }
def FnExactStopsOkUptoSaid : Prop := fnExactStopsOkUptoRow.holds Try.pinned (OpenSpec.upto fnExactStopsOkSpec)

/-- 'laws.FnExactLongestFor', WHERE WHAT IT READS IS OF BULK AT MOST 1048576: true; the input reads as it did. -/
def fnExactLongestForUptoRow : OpenClaim := { program := "ytbimhcdfojbjgaa", sum := "25128234c5802be263f22e73b9cc66b8014cc5663c2402bb1f2ae0bd4b1c1edb", func := "loop.example/g00989/laws.FnExactLongestFor", spec := "fnExactLongestFor", plainKeys := false, apart := false, narrowed := true }
def FnExactLongestForUptoSaid : Prop := fnExactLongestForUptoRow.holds Try.pinned (OpenSpec.upto fnExactLongestForSpec)

/-- 'laws.FnExactLongestNote', WHERE WHAT IT READS IS OF BULK AT MOST 1048576: true; the input reads as it did. -/
def fnExactLongestNoteUptoRow : OpenClaim := { program := "ytbimhcdfojbjgaa", sum := "25128234c5802be263f22e73b9cc66b8014cc5663c2402bb1f2ae0bd4b1c1edb", func := "loop.example/g00989/laws.FnExactLongestNote", spec := "fnExactLongestNote", plainKeys := false, apart := false, narrowed := true }
def FnExactLongestNoteUptoSaid : Prop := fnExactLongestNoteUptoRow.holds Try.pinned (OpenSpec.upto fnExactLongestNoteSpec)

end Rows
end Go.Proofs.Ytbimhcdfojbjgaa
