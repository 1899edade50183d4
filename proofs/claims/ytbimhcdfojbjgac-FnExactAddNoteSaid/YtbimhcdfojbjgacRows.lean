/-
  No cell of these rows narrows 'for every input' (looked for: loops, veiled, ifaces, maps, wideKeys, modest, calm, conditions, laid).
  DERIVED. THE GIVEN ROWS OF THIS SEAT. 12 by the template 'for every input the law returns true; each argument reads behind the call as it read before'; 0 by the template 'total and deterministic' (their statements: YtbimhcdfojbjgacTotals.lean).
  GIVEN WITH THE SEED: the statements are not yours to turn. If you find one false, say at which input.
  Laid BY PROGRAM, IN A SANDBOX (cutbox-rows.mjs): the forced cells as the released guide's own fill.sh prints them over the translation ba867a68e8fd8f32… (all of the seat's roots in one cut). By AI agents, Wed Nov 11 2026. No macro, syntax, notation, axiom, sorry.
-/
import Derived.Test.YtbimhcdfojbjgacChecked
import GoSem.Claim
import GoSem.ClaimJoined
import GoSem.ClaimMapViews
import Derived.JoinedTies
import Derived.KernelRfl
namespace Go.Proofs.Ytbimhcdfojbjgac
/- THE CELL 'sum', in the pinned program and in every row, IS THE sha256 OF THE DUMP (.gsa) THAT YtbimhcdfojbjgacProg.lean LOADS. Nothing in Lean hashes anything: it is a label: what it is worth is what the hold of that sum in a sandbox is worth. -/
noncomputable def Try.pinned : Pinned := { name := "ytbimhcdfojbjgac", sum := "ba867a68e8fd8f32f0c7ab8c13edb051ac1e832784fb3adf82400e9c4766447d", checked := Try.checked }
namespace Rows
def none {H : Type} : Left H := { results := [], args := [] }

/-- 'laws.FnExactFrameLoad': WHATEVER THE INPUT: true; the input reads as it did. -/
def fnExactFrameLoadSpec : ChangeSpec := { name := "fnExactFrameLoad", fn := fun _ => fun
  | [d1, d2] => { results := [.lit (.bool true)], args := [d1, d2] }
  | _ => none }
def fnExactFrameLoadRow : OpenClaim := { program := "ytbimhcdfojbjgac", sum := "ba867a68e8fd8f32f0c7ab8c13edb051ac1e832784fb3adf82400e9c4766447d", func := "loop.example/g00989/laws.FnExactFrameLoad", spec := "fnExactFrameLoad", apart := false }
def FnExactFrameLoadSaid : Prop := fnExactFrameLoadRow.holds Try.pinned (OpenSpec.ofChange fnExactFrameLoadSpec)

/-- ITS FALSE NEIGHBOUR: 'it returns false'. Refute it at one input. -/
def fnExactFrameLoadWrong : ChangeSpec := { name := "fnExactFrameLoad", fn := fun _ => fun
  | [d1, d2] => { results := [.lit (.bool false)], args := [d1, d2] }
  | _ => none }
def FnExactFrameLoadWrongFalsely : Prop := fnExactFrameLoadRow.holds Try.pinned (OpenSpec.ofChange fnExactFrameLoadWrong)

/-- 'laws.FnExactRunWind': WHATEVER THE INPUT: true; the input reads as it did. -/
def fnExactRunWindSpec : ChangeSpec := { name := "fnExactRunWind", fn := fun _ => fun
  | [d1, d2] => { results := [.lit (.bool true)], args := [d1, d2] }
  | _ => none }
def fnExactRunWindRow : OpenClaim := { program := "ytbimhcdfojbjgac", sum := "ba867a68e8fd8f32f0c7ab8c13edb051ac1e832784fb3adf82400e9c4766447d", func := "loop.example/g00989/laws.FnExactRunWind", spec := "fnExactRunWind", apart := false }
def FnExactRunWindSaid : Prop := fnExactRunWindRow.holds Try.pinned (OpenSpec.ofChange fnExactRunWindSpec)

/-- ITS FALSE NEIGHBOUR: 'it returns false'. Refute it at one input. -/
def fnExactRunWindWrong : ChangeSpec := { name := "fnExactRunWind", fn := fun _ => fun
  | [d1, d2] => { results := [.lit (.bool false)], args := [d1, d2] }
  | _ => none }
def FnExactRunWindWrongFalsely : Prop := fnExactRunWindRow.holds Try.pinned (OpenSpec.ofChange fnExactRunWindWrong)

/-- 'laws.FnWinds': WHATEVER THE INPUT: true; the input reads as it did. -/
def fnWindsSpec : ChangeSpec := { name := "fnWinds", fn := fun _ => fun
  | [d] => { results := [.lit (.bool true)], args := [d] }
  | _ => none }
def fnWindsRow : OpenClaim := { program := "ytbimhcdfojbjgac", sum := "ba867a68e8fd8f32f0c7ab8c13edb051ac1e832784fb3adf82400e9c4766447d", func := "loop.example/g00989/laws.FnWinds", spec := "fnWinds", apart := false }
def FnWindsSaid : Prop := fnWindsRow.holds Try.pinned (OpenSpec.ofChange fnWindsSpec)

/-- ITS FALSE NEIGHBOUR: 'it returns false'. Refute it at one input. -/
def fnWindsWrong : ChangeSpec := { name := "fnWinds", fn := fun _ => fun
  | [d] => { results := [.lit (.bool false)], args := [d] }
  | _ => none }
def FnWindsWrongFalsely : Prop := fnWindsRow.holds Try.pinned (OpenSpec.ofChange fnWindsWrong)

/-- 'laws.FnExactSoundsAt': WHATEVER THE INPUT: true; the input reads as it did. -/
def fnExactSoundsAtSpec : ChangeSpec := { name := "fnExactSoundsAt", fn := fun _ => fun
  | [d1, d2] => { results := [.lit (.bool true)], args := [d1, d2] }
  | _ => none }
def fnExactSoundsAtRow : OpenClaim := { program := "ytbimhcdfojbjgac", sum := "ba867a68e8fd8f32f0c7ab8c13edb051ac1e832784fb3adf82400e9c4766447d", func := "loop.example/g00989/laws.FnExactSoundsAt", spec := "fnExactSoundsAt", apart := false }
def FnExactSoundsAtSaid : Prop := fnExactSoundsAtRow.holds Try.pinned (OpenSpec.ofChange fnExactSoundsAtSpec)

/-- ITS FALSE NEIGHBOUR: 'it returns false'. Refute it at one input. -/
def fnExactSoundsAtWrong : ChangeSpec := { name := "fnExactSoundsAt", fn := fun _ => fun
  | [d1, d2] => { results := [.lit (.bool false)], args := [d1, d2] }
  | _ => none }
def FnExactSoundsAtWrongFalsely : Prop := fnExactSoundsAtRow.holds Try.pinned (OpenSpec.ofChange fnExactSoundsAtWrong)

/-- 'laws.FnExactHighestSound': WHATEVER THE INPUT: true; the input reads as it did. -/
def fnExactHighestSoundSpec : ChangeSpec := { name := "fnExactHighestSound", fn := fun _ => fun
  | [d] => { results := [.lit (.bool true)], args := [d] }
  | _ => none }
def fnExactHighestSoundRow : OpenClaim := { program := "ytbimhcdfojbjgac", sum := "ba867a68e8fd8f32f0c7ab8c13edb051ac1e832784fb3adf82400e9c4766447d", func := "loop.example/g00989/laws.FnExactHighestSound", spec := "fnExactHighestSound", apart := false }
def FnExactHighestSoundSaid : Prop := fnExactHighestSoundRow.holds Try.pinned (OpenSpec.ofChange fnExactHighestSoundSpec)

/-- ITS FALSE NEIGHBOUR: 'it returns false'. Refute it at one input. -/
def fnExactHighestSoundWrong : ChangeSpec := { name := "fnExactHighestSound", fn := fun _ => fun
  | [d] => { results := [.lit (.bool false)], args := [d] }
  | _ => none }
def FnExactHighestSoundWrongFalsely : Prop := fnExactHighestSoundRow.holds Try.pinned (OpenSpec.ofChange fnExactHighestSoundWrong)

/-- 'laws.FnExactAddNote': WHATEVER THE INPUT: true; the input reads as it did. -/
def fnExactAddNoteSpec : ChangeSpec := { name := "fnExactAddNote", fn := fun _ => fun
  | [d1, d2] => { results := [.lit (.bool true)], args := [d1, d2] }
  | _ => none }
def fnExactAddNoteRow : OpenClaim := { program := "ytbimhcdfojbjgac", sum := "ba867a68e8fd8f32f0c7ab8c13edb051ac1e832784fb3adf82400e9c4766447d", func := "loop.example/g00989/laws.FnExactAddNote", spec := "fnExactAddNote", apart := false }
def FnExactAddNoteSaid : Prop := fnExactAddNoteRow.holds Try.pinned (OpenSpec.ofChange fnExactAddNoteSpec)

/-- ITS FALSE NEIGHBOUR: 'it returns false'. Refute it at one input. -/
def fnExactAddNoteWrong : ChangeSpec := { name := "fnExactAddNote", fn := fun _ => fun
  | [d1, d2] => { results := [.lit (.bool false)], args := [d1, d2] }
  | _ => none }
def FnExactAddNoteWrongFalsely : Prop := fnExactAddNoteRow.holds Try.pinned (OpenSpec.ofChange fnExactAddNoteWrong)

/-- 'laws.FnExactIsBelow': WHATEVER THE INPUT: true; the input reads as it did. -/
def fnExactIsBelowSpec : ChangeSpec := { name := "fnExactIsBelow", fn := fun _ => fun
  | [d1, d2] => { results := [.lit (.bool true)], args := [d1, d2] }
  | _ => none }
def fnExactIsBelowRow : OpenClaim := { program := "ytbimhcdfojbjgac", sum := "ba867a68e8fd8f32f0c7ab8c13edb051ac1e832784fb3adf82400e9c4766447d", func := "loop.example/g00989/laws.FnExactIsBelow", spec := "fnExactIsBelow", apart := false }
def FnExactIsBelowSaid : Prop := fnExactIsBelowRow.holds Try.pinned (OpenSpec.ofChange fnExactIsBelowSpec)

/-- ITS FALSE NEIGHBOUR: 'it returns false'. Refute it at one input. -/
def fnExactIsBelowWrong : ChangeSpec := { name := "fnExactIsBelow", fn := fun _ => fun
  | [d1, d2] => { results := [.lit (.bool false)], args := [d1, d2] }
  | _ => none }
def FnExactIsBelowWrongFalsely : Prop := fnExactIsBelowRow.holds Try.pinned (OpenSpec.ofChange fnExactIsBelowWrong)

/-- 'laws.FnExactSplitPairs': WHATEVER THE INPUT: true; the input reads as it did. -/
def fnExactSplitPairsSpec : ChangeSpec := { name := "fnExactSplitPairs", fn := fun _ => fun
  | [d] => { results := [.lit (.bool true)], args := [d] }
  | _ => none }
def fnExactSplitPairsRow : OpenClaim := { program := "ytbimhcdfojbjgac", sum := "ba867a68e8fd8f32f0c7ab8c13edb051ac1e832784fb3adf82400e9c4766447d", func := "loop.example/g00989/laws.FnExactSplitPairs", spec := "fnExactSplitPairs", apart := false }
def FnExactSplitPairsSaid : Prop := fnExactSplitPairsRow.holds Try.pinned (OpenSpec.ofChange fnExactSplitPairsSpec)

/-- ITS FALSE NEIGHBOUR: 'it returns false'. Refute it at one input. -/
def fnExactSplitPairsWrong : ChangeSpec := { name := "fnExactSplitPairs", fn := fun _ => fun
  | [d] => { results := [.lit (.bool false)], args := [d] }
  | _ => none }
def FnExactSplitPairsWrongFalsely : Prop := fnExactSplitPairsRow.holds Try.pinned (OpenSpec.ofChange fnExactSplitPairsWrong)

/-- 'laws.FnKeyboards': WHATEVER THE INPUT: true; the input reads as it did. -/
def fnKeyboardsSpec : ChangeSpec := { name := "fnKeyboards", fn := fun _ => fun
  | [d] => { results := [.lit (.bool true)], args := [d] }
  | _ => none }
def fnKeyboardsRow : OpenClaim := { program := "ytbimhcdfojbjgac", sum := "ba867a68e8fd8f32f0c7ab8c13edb051ac1e832784fb3adf82400e9c4766447d", func := "loop.example/g00989/laws.FnKeyboards", spec := "fnKeyboards", apart := false }
def FnKeyboardsSaid : Prop := fnKeyboardsRow.holds Try.pinned (OpenSpec.ofChange fnKeyboardsSpec)

/-- ITS FALSE NEIGHBOUR: 'it returns false'. Refute it at one input. -/
def fnKeyboardsWrong : ChangeSpec := { name := "fnKeyboards", fn := fun _ => fun
  | [d] => { results := [.lit (.bool false)], args := [d] }
  | _ => none }
def FnKeyboardsWrongFalsely : Prop := fnKeyboardsRow.holds Try.pinned (OpenSpec.ofChange fnKeyboardsWrong)

/-- 'laws.FnExactSumOf': WHATEVER THE INPUT: true; the input reads as it did. -/
def fnExactSumOfSpec : ChangeSpec := { name := "fnExactSumOf", fn := fun _ => fun
  | [d] => { results := [.lit (.bool true)], args := [d] }
  | _ => none }
def fnExactSumOfRow : OpenClaim := { program := "ytbimhcdfojbjgac", sum := "ba867a68e8fd8f32f0c7ab8c13edb051ac1e832784fb3adf82400e9c4766447d", func := "loop.example/g00989/laws.FnExactSumOf", spec := "fnExactSumOf", apart := false }
def FnExactSumOfSaid : Prop := fnExactSumOfRow.holds Try.pinned (OpenSpec.ofChange fnExactSumOfSpec)

/-- ITS FALSE NEIGHBOUR: 'it returns false'. Refute it at one input. -/
def fnExactSumOfWrong : ChangeSpec := { name := "fnExactSumOf", fn := fun _ => fun
  | [d] => { results := [.lit (.bool false)], args := [d] }
  | _ => none }
def FnExactSumOfWrongFalsely : Prop := fnExactSumOfRow.holds Try.pinned (OpenSpec.ofChange fnExactSumOfWrong)

/-- 'laws.FnExactPlayableKeys': WHATEVER THE INPUT: true; the input reads as it did. -/
def fnExactPlayableKeysSpec : ChangeSpec := { name := "fnExactPlayableKeys", fn := fun _ => fun
  | [d] => { results := [.lit (.bool true)], args := [d] }
  | _ => none }
def fnExactPlayableKeysRow : OpenClaim := { program := "ytbimhcdfojbjgac", sum := "ba867a68e8fd8f32f0c7ab8c13edb051ac1e832784fb3adf82400e9c4766447d", func := "loop.example/g00989/laws.FnExactPlayableKeys", spec := "fnExactPlayableKeys", apart := false }
def FnExactPlayableKeysSaid : Prop := fnExactPlayableKeysRow.holds Try.pinned (OpenSpec.ofChange fnExactPlayableKeysSpec)

/-- ITS FALSE NEIGHBOUR: 'it returns false'. Refute it at one input. -/
def fnExactPlayableKeysWrong : ChangeSpec := { name := "fnExactPlayableKeys", fn := fun _ => fun
  | [d] => { results := [.lit (.bool false)], args := [d] }
  | _ => none }
def FnExactPlayableKeysWrongFalsely : Prop := fnExactPlayableKeysRow.holds Try.pinned (OpenSpec.ofChange fnExactPlayableKeysWrong)

/-- 'laws.FnExactIsPure': WHATEVER THE INPUT: true; the input reads as it did. -/
def fnExactIsPureSpec : ChangeSpec := { name := "fnExactIsPure", fn := fun _ => fun
  | [d] => { results := [.lit (.bool true)], args := [d] }
  | _ => none }
def fnExactIsPureRow : OpenClaim := { program := "ytbimhcdfojbjgac", sum := "ba867a68e8fd8f32f0c7ab8c13edb051ac1e832784fb3adf82400e9c4766447d", func := "loop.example/g00989/laws.FnExactIsPure", spec := "fnExactIsPure", apart := false }
def FnExactIsPureSaid : Prop := fnExactIsPureRow.holds Try.pinned (OpenSpec.ofChange fnExactIsPureSpec)

/-- ITS FALSE NEIGHBOUR: 'it returns false'. Refute it at one input. -/
def fnExactIsPureWrong : ChangeSpec := { name := "fnExactIsPure", fn := fun _ => fun
  | [d] => { results := [.lit (.bool false)], args := [d] }
  | _ => none }
def FnExactIsPureWrongFalsely : Prop := fnExactIsPureRow.holds Try.pinned (OpenSpec.ofChange fnExactIsPureWrong)

/- THE SECOND FORM. 'bulk': how many values and letters a reading holds, each counted each time it is reached (what is shared counts as often as it is met; a slice's spare places count too). A statement '..UptoSaid' is the law's where the arguments, and the package variables that the reading takes, are together of bulk at most 1048576: NARROWER than '..Said'. Prove '..Said' where nothing that the law and all that it calls make is longer than what came in: it says more and counts as full. Else prove '..UptoSaid'. A law counts once. -/
mutual
def uptoBulk {H : Type} : DataW H → Nat
  | .lit (.string bytes) => bytes.length + 1
  | .lit _ => 1
  | .nil => 1
  | .ptr d => uptoBulk d + 1
  | .slice elems spare => uptoBulkAll elems + uptoBulkAll spare + 1
  | .agg parts => uptoBulkAll parts + 1
  | .iface _ d => uptoBulk d + 1
  | .map entries => uptoBulkEntries entries + 1
  | .held _ => 1
def uptoBulkAll {H : Type} : List (DataW H) → Nat
  | [] => 0
  | d :: r => uptoBulk d + uptoBulkAll r
def uptoBulkEntries {H : Type} : List (Lit × DataW H) → Nat
  | [] => 0
  | x :: r => uptoBulkEntry x + uptoBulkEntries r
def uptoBulkEntry {H : Type} : Lit × DataW H → Nat
  | (.string bytes, d) => bytes.length + uptoBulk d + 1
  | (_, d) => uptoBulk d + 1
 end
def uptoSmall : (H : Type) → List (DataW H) → Bool := fun _ ds => decide (uptoBulkAll ds ≤ 1048576)
def OpenSpec.upto (s : _root_.Go.ChangeSpec) : _root_.Go.OpenSpec := { _root_.Go.OpenSpec.ofChange s with cond := some uptoSmall }

/-- 'laws.FnExactFrameLoad', WHERE WHAT IT READS IS OF BULK AT MOST 1048576: true; the input reads as it did. -/
def fnExactFrameLoadUptoRow : OpenClaim := { program := "ytbimhcdfojbjgac", sum := "ba867a68e8fd8f32f0c7ab8c13edb051ac1e832784fb3adf82400e9c4766447d", func := "loop.example/g00989/laws.FnExactFrameLoad", spec := "fnExactFrameLoad", apart := false, narrowed := true }
def FnExactFrameLoadUptoSaid : Prop := fnExactFrameLoadUptoRow.holds Try.pinned (OpenSpec.upto fnExactFrameLoadSpec)

/-- 'laws.FnExactRunWind', WHERE WHAT IT READS IS OF BULK AT MOST 1048576: true; the input reads as it did. -/
def fnExactRunWindUptoRow : OpenClaim := { program := "ytbimhcdfojbjgac", sum := "ba867a68e8fd8f32f0c7ab8c13edb051ac1e832784fb3adf82400e9c4766447d", func := "loop.example/g00989/laws.FnExactRunWind", spec := "fnExactRunWind", apart := false, narrowed := true }
def FnExactRunWindUptoSaid : Prop := fnExactRunWindUptoRow.holds Try.pinned (OpenSpec.upto fnExactRunWindSpec)

/-- 'laws.FnWinds', WHERE WHAT IT READS IS OF BULK AT MOST 1048576: true; the input reads as it did. -/
def fnWindsUptoRow : OpenClaim := { program := "ytbimhcdfojbjgac", sum := "ba867a68e8fd8f32f0c7ab8c13edb051ac1e832784fb3adf82400e9c4766447d", func := "loop.example/g00989/laws.FnWinds", spec := "fnWinds", apart := false, narrowed := true }
def FnWindsUptoSaid : Prop := fnWindsUptoRow.holds Try.pinned (OpenSpec.upto fnWindsSpec)

/-- 'laws.FnExactSoundsAt', WHERE WHAT IT READS IS OF BULK AT MOST 1048576: true; the input reads as it did. -/
def fnExactSoundsAtUptoRow : OpenClaim := { program := "ytbimhcdfojbjgac", sum := "ba867a68e8fd8f32f0c7ab8c13edb051ac1e832784fb3adf82400e9c4766447d", func := "loop.example/g00989/laws.FnExactSoundsAt", spec := "fnExactSoundsAt", apart := false, narrowed := true }
def FnExactSoundsAtUptoSaid : Prop := fnExactSoundsAtUptoRow.holds Try.pinned (OpenSpec.upto fnExactSoundsAtSpec)

/-- 'laws.FnExactHighestSound', WHERE WHAT IT READS IS OF BULK AT MOST 1048576: true; the input reads as it did. -/
def fnExactHighestSoundUptoRow : OpenClaim := { program := "ytbimhcdfojbjgac", sum := "ba867a68e8fd8f32f0c7ab8c13edb051ac1e832784fb3adf82400e9c4766447d", func := "loop.example/g00989/laws.FnExactHighestSound", spec := "fnExactHighestSound", apart := false, narrowed := true }
def FnExactHighestSoundUptoSaid : Prop := fnExactHighestSoundUptoRow.holds Try.pinned (OpenSpec.upto fnExactHighestSoundSpec)

/-- 'laws.FnExactAddNote', WHERE WHAT IT READS IS OF BULK AT MOST 1048576: true; the input reads as it did. -/
def fnExactAddNoteUptoRow : OpenClaim := { program := "ytbimhcdfojbjgac", sum := "ba867a68e8fd8f32f0c7ab8c13edb051ac1e832784fb3adf82400e9c4766447d", func := "loop.example/g00989/laws.FnExactAddNote", spec := "fnExactAddNote", apart := false, narrowed := true }
def FnExactAddNoteUptoSaid : Prop := fnExactAddNoteUptoRow.holds Try.pinned (OpenSpec.upto fnExactAddNoteSpec)

/-- 'laws.FnExactIsBelow', WHERE WHAT IT READS IS OF BULK AT MOST 1048576: true; the input reads as it did. -/
def fnExactIsBelowUptoRow : OpenClaim := { program := "ytbimhcdfojbjgac", sum := "ba867a68e8fd8f32f0c7ab8c13edb051ac1e832784fb3adf82400e9c4766447d", func := "loop.example/g00989/laws.FnExactIsBelow", spec := "fnExactIsBelow", apart := false, narrowed := true }
def FnExactIsBelowUptoSaid : Prop := fnExactIsBelowUptoRow.holds Try.pinned (OpenSpec.upto fnExactIsBelowSpec)

/-- 'laws.FnExactSplitPairs', WHERE WHAT IT READS IS OF BULK AT MOST 1048576: true; the input reads as it did. -/
def fnExactSplitPairsUptoRow : OpenClaim := { program := "ytbimhcdfojbjgac", sum := "ba867a68e8fd8f32f0c7ab8c13edb051ac1e832784fb3adf82400e9c4766447d", func := "loop.example/g00989/laws.FnExactSplitPairs", spec := "fnExactSplitPairs", apart := false, narrowed := true }
def FnExactSplitPairsUptoSaid : Prop := fnExactSplitPairsUptoRow.holds Try.pinned (OpenSpec.upto fnExactSplitPairsSpec)

/-- 'laws.FnKeyboards', WHERE WHAT IT READS IS OF BULK AT MOST 1048576: true; the input reads as it did. -/
def fnKeyboardsUptoRow : OpenClaim := { program := "ytbimhcdfojbjgac", sum := "ba867a68e8fd8f32f0c7ab8c13edb051ac1e832784fb3adf82400e9c4766447d", func := "loop.example/g00989/laws.FnKeyboards", spec := "fnKeyboards", apart := false, narrowed := true }
def FnKeyboardsUptoSaid : Prop := fnKeyboardsUptoRow.holds Try.pinned (OpenSpec.upto fnKeyboardsSpec)

/-- 'laws.FnExactSumOf', WHERE WHAT IT READS IS OF BULK AT MOST 1048576: true; the input reads as it did. -/
def fnExactSumOfUptoRow : OpenClaim := { program := "ytbimhcdfojbjgac", sum := "ba867a68e8fd8f32f0c7ab8c13edb051ac1e832784fb3adf82400e9c4766447d", func := "loop.example/g00989/laws.FnExactSumOf", spec := "fnExactSumOf", apart := false, narrowed := true }
def FnExactSumOfUptoSaid : Prop := fnExactSumOfUptoRow.holds Try.pinned (OpenSpec.upto fnExactSumOfSpec)

/-- 'laws.FnExactPlayableKeys', WHERE WHAT IT READS IS OF BULK AT MOST 1048576: true; the input reads as it did. -/
def fnExactPlayableKeysUptoRow : OpenClaim := { program := "ytbimhcdfojbjgac", sum := "ba867a68e8fd8f32f0c7ab8c13edb051ac1e832784fb3adf82400e9c4766447d", func := "loop.example/g00989/laws.FnExactPlayableKeys", spec := "fnExactPlayableKeys", apart := false, narrowed := true }
def FnExactPlayableKeysUptoSaid : Prop := fnExactPlayableKeysUptoRow.holds Try.pinned (OpenSpec.upto fnExactPlayableKeysSpec)

/-- 'laws.FnExactIsPure', WHERE WHAT IT READS IS OF BULK AT MOST 1048576: true; the input reads as it did. -/
def fnExactIsPureUptoRow : OpenClaim := { program := "ytbimhcdfojbjgac", sum := "ba867a68e8fd8f32f0c7ab8c13edb051ac1e832784fb3adf82400e9c4766447d", func := "loop.example/g00989/laws.FnExactIsPure", spec := "fnExactIsPure", apart := false, narrowed := true }
def FnExactIsPureUptoSaid : Prop := fnExactIsPureUptoRow.holds Try.pinned (OpenSpec.upto fnExactIsPureSpec)

end Rows
end Go.Proofs.Ytbimhcdfojbjgac
