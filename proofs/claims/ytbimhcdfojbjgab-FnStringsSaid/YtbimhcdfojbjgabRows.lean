/-
  No cell of these rows narrows 'for every input' (looked for: loops, veiled, ifaces, maps, wideKeys, modest, calm, conditions, laid).
  DERIVED. THE GIVEN ROWS OF THIS SEAT. 12 by the template 'for every input the law returns true; each argument reads behind the call as it read before'; 0 by the template 'total and deterministic' (their statements: YtbimhcdfojbjgabTotals.lean).
  GIVEN WITH THE SEED: the statements are not yours to turn. If you find one false, say at which input.
  Laid BY PROGRAM, IN A SANDBOX (cutbox-rows.mjs): the forced cells as the released guide's own fill.sh prints them over the translation 6fa464f34949f7c0… (all of the seat's roots in one cut). By AI agents, Wed Nov 11 2026. No macro, syntax, notation, axiom, sorry.
-/
import Derived.Test.YtbimhcdfojbjgabChecked
import GoSem.Claim
import GoSem.ClaimJoined
import GoSem.ClaimMapViews
import Derived.JoinedTies
import Derived.KernelRfl
namespace Go.Proofs.Ytbimhcdfojbjgab
/- THE CELL 'sum', in the pinned program and in every row, IS THE sha256 OF THE DUMP (.gsa) THAT YtbimhcdfojbjgabProg.lean LOADS. Nothing in Lean hashes anything: it is a label: what it is worth is what the hold of that sum in a sandbox is worth. -/
noncomputable def Try.pinned : Pinned := { name := "ytbimhcdfojbjgab", sum := "6fa464f34949f7c010f25c21b2ab84a0ef39d90683161483ec9f7a580641da8c", checked := Try.checked }
namespace Rows
def none {H : Type} : Left H := { results := [], args := [] }

/-- 'laws.FnRanks': WHATEVER THE INPUT: true; the input reads as it did. -/
def fnRanksSpec : ChangeSpec := { name := "fnRanks", fn := fun _ => fun
  | [d] => { results := [.lit (.bool true)], args := [d] }
  | _ => none }
def fnRanksRow : OpenClaim := { program := "ytbimhcdfojbjgab", sum := "6fa464f34949f7c010f25c21b2ab84a0ef39d90683161483ec9f7a580641da8c", func := "loop.example/g00989/laws.FnRanks", spec := "fnRanks", apart := false }
def FnRanksSaid : Prop := fnRanksRow.holds Try.pinned (OpenSpec.ofChange fnRanksSpec)

/-- ITS FALSE NEIGHBOUR: 'it returns false'. Refute it at one input. -/
def fnRanksWrong : ChangeSpec := { name := "fnRanks", fn := fun _ => fun
  | [d] => { results := [.lit (.bool false)], args := [d] }
  | _ => none }
def FnRanksWrongFalsely : Prop := fnRanksRow.holds Try.pinned (OpenSpec.ofChange fnRanksWrong)

/-- 'laws.FnExactCanLast': WHATEVER THE INPUT: true; the input reads as it did. -/
def fnExactCanLastSpec : ChangeSpec := { name := "fnExactCanLast", fn := fun _ => fun
  | [d1, d2, d3] => { results := [.lit (.bool true)], args := [d1, d2, d3] }
  | _ => none }
def fnExactCanLastRow : OpenClaim := { program := "ytbimhcdfojbjgab", sum := "6fa464f34949f7c010f25c21b2ab84a0ef39d90683161483ec9f7a580641da8c", func := "loop.example/g00989/laws.FnExactCanLast", spec := "fnExactCanLast", apart := false }
def FnExactCanLastSaid : Prop := fnExactCanLastRow.holds Try.pinned (OpenSpec.ofChange fnExactCanLastSpec)

/-- ITS FALSE NEIGHBOUR: 'it returns false'. Refute it at one input. -/
def fnExactCanLastWrong : ChangeSpec := { name := "fnExactCanLast", fn := fun _ => fun
  | [d1, d2, d3] => { results := [.lit (.bool false)], args := [d1, d2, d3] }
  | _ => none }
def FnExactCanLastWrongFalsely : Prop := fnExactCanLastRow.holds Try.pinned (OpenSpec.ofChange fnExactCanLastWrong)

/-- 'laws.FnExactIsBorrowed': WHATEVER THE INPUT: true; the input reads as it did. -/
def fnExactIsBorrowedSpec : ChangeSpec := { name := "fnExactIsBorrowed", fn := fun _ => fun
  | [d1, d2, d3] => { results := [.lit (.bool true)], args := [d1, d2, d3] }
  | _ => none }
def fnExactIsBorrowedRow : OpenClaim := { program := "ytbimhcdfojbjgab", sum := "6fa464f34949f7c010f25c21b2ab84a0ef39d90683161483ec9f7a580641da8c", func := "loop.example/g00989/laws.FnExactIsBorrowed", spec := "fnExactIsBorrowed", apart := false }
def FnExactIsBorrowedSaid : Prop := fnExactIsBorrowedRow.holds Try.pinned (OpenSpec.ofChange fnExactIsBorrowedSpec)

/-- ITS FALSE NEIGHBOUR: 'it returns false'. Refute it at one input. -/
def fnExactIsBorrowedWrong : ChangeSpec := { name := "fnExactIsBorrowed", fn := fun _ => fun
  | [d1, d2, d3] => { results := [.lit (.bool false)], args := [d1, d2, d3] }
  | _ => none }
def FnExactIsBorrowedWrongFalsely : Prop := fnExactIsBorrowedRow.holds Try.pinned (OpenSpec.ofChange fnExactIsBorrowedWrong)

/-- 'laws.FnExactMixtureOk': WHATEVER THE INPUT: true; the input reads as it did. -/
def fnExactMixtureOkSpec : ChangeSpec := { name := "fnExactMixtureOk", fn := fun _ => fun
  | [d] => { results := [.lit (.bool true)], args := [d] }
  | _ => none }
def fnExactMixtureOkRow : OpenClaim := { program := "ytbimhcdfojbjgab", sum := "6fa464f34949f7c010f25c21b2ab84a0ef39d90683161483ec9f7a580641da8c", func := "loop.example/g00989/laws.FnExactMixtureOk", spec := "fnExactMixtureOk", apart := false }
def FnExactMixtureOkSaid : Prop := fnExactMixtureOkRow.holds Try.pinned (OpenSpec.ofChange fnExactMixtureOkSpec)

/-- ITS FALSE NEIGHBOUR: 'it returns false'. Refute it at one input. -/
def fnExactMixtureOkWrong : ChangeSpec := { name := "fnExactMixtureOk", fn := fun _ => fun
  | [d] => { results := [.lit (.bool false)], args := [d] }
  | _ => none }
def FnExactMixtureOkWrongFalsely : Prop := fnExactMixtureOkRow.holds Try.pinned (OpenSpec.ofChange fnExactMixtureOkWrong)

/-- 'laws.FnWarmths': WHATEVER THE INPUT: true; the input reads as it did. -/
def fnWarmthsSpec : ChangeSpec := { name := "fnWarmths", fn := fun _ => fun
  | [d] => { results := [.lit (.bool true)], args := [d] }
  | _ => none }
def fnWarmthsRow : OpenClaim := { program := "ytbimhcdfojbjgab", sum := "6fa464f34949f7c010f25c21b2ab84a0ef39d90683161483ec9f7a580641da8c", func := "loop.example/g00989/laws.FnWarmths", spec := "fnWarmths", apart := false }
def FnWarmthsSaid : Prop := fnWarmthsRow.holds Try.pinned (OpenSpec.ofChange fnWarmthsSpec)

/-- ITS FALSE NEIGHBOUR: 'it returns false'. Refute it at one input. -/
def fnWarmthsWrong : ChangeSpec := { name := "fnWarmths", fn := fun _ => fun
  | [d] => { results := [.lit (.bool false)], args := [d] }
  | _ => none }
def FnWarmthsWrongFalsely : Prop := fnWarmthsRow.holds Try.pinned (OpenSpec.ofChange fnWarmthsWrong)

/-- 'laws.FnExactCoupled': WHATEVER THE INPUT: true; the input reads as it did. -/
def fnExactCoupledSpec : ChangeSpec := { name := "fnExactCoupled", fn := fun _ => fun
  | [d1, d2] => { results := [.lit (.bool true)], args := [d1, d2] }
  | _ => none }
def fnExactCoupledRow : OpenClaim := { program := "ytbimhcdfojbjgab", sum := "6fa464f34949f7c010f25c21b2ab84a0ef39d90683161483ec9f7a580641da8c", func := "loop.example/g00989/laws.FnExactCoupled", spec := "fnExactCoupled", apart := false }
def FnExactCoupledSaid : Prop := fnExactCoupledRow.holds Try.pinned (OpenSpec.ofChange fnExactCoupledSpec)

/-- ITS FALSE NEIGHBOUR: 'it returns false'. Refute it at one input. -/
def fnExactCoupledWrong : ChangeSpec := { name := "fnExactCoupled", fn := fun _ => fun
  | [d1, d2] => { results := [.lit (.bool false)], args := [d1, d2] }
  | _ => none }
def FnExactCoupledWrongFalsely : Prop := fnExactCoupledRow.holds Try.pinned (OpenSpec.ofChange fnExactCoupledWrong)

/-- 'laws.FnStrings': WHATEVER THE INPUT: true; the input reads as it did. -/
def fnStringsSpec : ChangeSpec := { name := "fnStrings", fn := fun _ => fun
  | [d] => { results := [.lit (.bool true)], args := [d] }
  | _ => none }
def fnStringsRow : OpenClaim := { program := "ytbimhcdfojbjgab", sum := "6fa464f34949f7c010f25c21b2ab84a0ef39d90683161483ec9f7a580641da8c", func := "loop.example/g00989/laws.FnStrings", spec := "fnStrings", apart := false }
def FnStringsSaid : Prop := fnStringsRow.holds Try.pinned (OpenSpec.ofChange fnStringsSpec)

/-- ITS FALSE NEIGHBOUR: 'it returns false'. Refute it at one input. -/
def fnStringsWrong : ChangeSpec := { name := "fnStrings", fn := fun _ => fun
  | [d] => { results := [.lit (.bool false)], args := [d] }
  | _ => none }
def FnStringsWrongFalsely : Prop := fnStringsRow.holds Try.pinned (OpenSpec.ofChange fnStringsWrong)

/-- 'laws.FnExactPumpMoves': WHATEVER THE INPUT: true; the input reads as it did. -/
def fnExactPumpMovesSpec : ChangeSpec := { name := "fnExactPumpMoves", fn := fun _ => fun
  | [] => { results := [.lit (.bool true)], args := [] }
  | _ => none }
def fnExactPumpMovesRow : OpenClaim := { program := "ytbimhcdfojbjgab", sum := "6fa464f34949f7c010f25c21b2ab84a0ef39d90683161483ec9f7a580641da8c", func := "loop.example/g00989/laws.FnExactPumpMoves", spec := "fnExactPumpMoves", apart := false }
def FnExactPumpMovesSaid : Prop := fnExactPumpMovesRow.holds Try.pinned (OpenSpec.ofChange fnExactPumpMovesSpec)

/-- ITS FALSE NEIGHBOUR: 'it returns false'. Refute it at one input. -/
def fnExactPumpMovesWrong : ChangeSpec := { name := "fnExactPumpMoves", fn := fun _ => fun
  | [] => { results := [.lit (.bool false)], args := [] }
  | _ => none }
def FnExactPumpMovesWrongFalsely : Prop := fnExactPumpMovesRow.holds Try.pinned (OpenSpec.ofChange fnExactPumpMovesWrong)

/-- 'laws.FnExactBreakAt': WHATEVER THE INPUT: true; the input reads as it did. -/
def fnExactBreakAtSpec : ChangeSpec := { name := "fnExactBreakAt", fn := fun _ => fun
  | [d1, d2] => { results := [.lit (.bool true)], args := [d1, d2] }
  | _ => none }
def fnExactBreakAtRow : OpenClaim := { program := "ytbimhcdfojbjgab", sum := "6fa464f34949f7c010f25c21b2ab84a0ef39d90683161483ec9f7a580641da8c", func := "loop.example/g00989/laws.FnExactBreakAt", spec := "fnExactBreakAt", apart := false }
def FnExactBreakAtSaid : Prop := fnExactBreakAtRow.holds Try.pinned (OpenSpec.ofChange fnExactBreakAtSpec)

/-- ITS FALSE NEIGHBOUR: 'it returns false'. Refute it at one input. -/
def fnExactBreakAtWrong : ChangeSpec := { name := "fnExactBreakAt", fn := fun _ => fun
  | [d1, d2] => { results := [.lit (.bool false)], args := [d1, d2] }
  | _ => none }
def FnExactBreakAtWrongFalsely : Prop := fnExactBreakAtRow.holds Try.pinned (OpenSpec.ofChange fnExactBreakAtWrong)

/-- 'laws.FnExactRunGlide': WHATEVER THE INPUT: true; the input reads as it did. -/
def fnExactRunGlideSpec : ChangeSpec := { name := "fnExactRunGlide", fn := fun _ => fun
  | [d1, d2, d3] => { results := [.lit (.bool true)], args := [d1, d2, d3] }
  | _ => none }
def fnExactRunGlideRow : OpenClaim := { program := "ytbimhcdfojbjgab", sum := "6fa464f34949f7c010f25c21b2ab84a0ef39d90683161483ec9f7a580641da8c", func := "loop.example/g00989/laws.FnExactRunGlide", spec := "fnExactRunGlide", apart := false }
def FnExactRunGlideSaid : Prop := fnExactRunGlideRow.holds Try.pinned (OpenSpec.ofChange fnExactRunGlideSpec)

/-- ITS FALSE NEIGHBOUR: 'it returns false'. Refute it at one input. -/
def fnExactRunGlideWrong : ChangeSpec := { name := "fnExactRunGlide", fn := fun _ => fun
  | [d1, d2, d3] => { results := [.lit (.bool false)], args := [d1, d2, d3] }
  | _ => none }
def FnExactRunGlideWrongFalsely : Prop := fnExactRunGlideRow.holds Try.pinned (OpenSpec.ofChange fnExactRunGlideWrong)

/-- 'laws.FnMixtures': WHATEVER THE INPUT: true; the input reads as it did. -/
def fnMixturesSpec : ChangeSpec := { name := "fnMixtures", fn := fun _ => fun
  | [d] => { results := [.lit (.bool true)], args := [d] }
  | _ => none }
def fnMixturesRow : OpenClaim := { program := "ytbimhcdfojbjgab", sum := "6fa464f34949f7c010f25c21b2ab84a0ef39d90683161483ec9f7a580641da8c", func := "loop.example/g00989/laws.FnMixtures", spec := "fnMixtures", apart := false }
def FnMixturesSaid : Prop := fnMixturesRow.holds Try.pinned (OpenSpec.ofChange fnMixturesSpec)

/-- ITS FALSE NEIGHBOUR: 'it returns false'. Refute it at one input. -/
def fnMixturesWrong : ChangeSpec := { name := "fnMixtures", fn := fun _ => fun
  | [d] => { results := [.lit (.bool false)], args := [d] }
  | _ => none }
def FnMixturesWrongFalsely : Prop := fnMixturesRow.holds Try.pinned (OpenSpec.ofChange fnMixturesWrong)

/-- 'laws.FnGlides': WHATEVER THE INPUT: true; the input reads as it did. -/
def fnGlidesSpec : ChangeSpec := { name := "fnGlides", fn := fun _ => fun
  | [d] => { results := [.lit (.bool true)], args := [d] }
  | _ => none }
def fnGlidesRow : OpenClaim := { program := "ytbimhcdfojbjgab", sum := "6fa464f34949f7c010f25c21b2ab84a0ef39d90683161483ec9f7a580641da8c", func := "loop.example/g00989/laws.FnGlides", spec := "fnGlides", apart := false }
def FnGlidesSaid : Prop := fnGlidesRow.holds Try.pinned (OpenSpec.ofChange fnGlidesSpec)

/-- ITS FALSE NEIGHBOUR: 'it returns false'. Refute it at one input. -/
def fnGlidesWrong : ChangeSpec := { name := "fnGlides", fn := fun _ => fun
  | [d] => { results := [.lit (.bool false)], args := [d] }
  | _ => none }
def FnGlidesWrongFalsely : Prop := fnGlidesRow.holds Try.pinned (OpenSpec.ofChange fnGlidesWrong)

/- THE SECOND FORM. 'bulk': how many values and letters a reading holds, each counted each time it is reached (what is shared counts as often as it is met; a slice's spare places count too). A statement '..UptoSaid' is the law's where the arguments, and the package variables that the reading takes, are together of bulk at most 1048576: NARROWER than '..Said'. Prove '..Said' where nothing that the law and all that it calls make is longer than what came in: it says more and counts as full. Else prove '..UptoSaid'. A law counts once. -/
mutual
def uptoBulk {H : Type} : DataW H → Nat
  | .lit (.string bytes) => bytes.length + 1
  | .lit _ => 1
  | .nil => 1
  | .ptr d => uptoBulk d + 1
  | .slice elems spare => uptoBulkAll elems + uptoBulkAll spare + 1
  | .agg parts => uptoBulkAll parts + 1
  | .iface _ d => uptoBulk d + 1
  | .map entries => uptoBulkEntries entries + 1
  | .held _ => 1
def uptoBulkAll {H : Type} : List (DataW H) → Nat
  | [] => 0
  | d :: r => uptoBulk d + uptoBulkAll r
def uptoBulkEntries {H : Type} : List (Lit × DataW H) → Nat
  | [] => 0
  | x :: r => uptoBulkEntry x + uptoBulkEntries r
def uptoBulkEntry {H : Type} : Lit × DataW H → Nat
  | (.string bytes, d) => bytes.length + uptoBulk d + 1
  | (_, d) => uptoBulk d + 1
 end
def uptoSmall : (H : Type) → List (DataW H) → Bool := fun _ ds => decide (uptoBulkAll ds ≤ 1048576)
def OpenSpec.upto (s : _root_.Go.ChangeSpec) : _root_.Go.OpenSpec := { _root_.Go.OpenSpec.ofChange s with cond := some uptoSmall }

/-- 'laws.FnRanks', WHERE WHAT IT READS IS OF BULK AT MOST 1048576: true; the input reads as it did. -/
def fnRanksUptoRow : OpenClaim := { program := "ytbimhcdfojbjgab", sum := "6fa464f34949f7c010f25c21b2ab84a0ef39d90683161483ec9f7a580641da8c", func := "loop.example/g00989/laws.FnRanks", spec := "fnRanks", apart := false, narrowed := true }
def FnRanksUptoSaid : Prop := fnRanksUptoRow.holds Try.pinned (OpenSpec.upto fnRanksSpec)

/-- 'laws.FnExactCanLast', WHERE WHAT IT READS IS OF BULK AT MOST 1048576: true; the input reads as it did. -/
def fnExactCanLastUptoRow : OpenClaim := { program := "ytbimhcdfojbjgab", sum := "6fa464f34949f7c010f25c21b2ab84a0ef39d90683161483ec9f7a580641da8c", func := "loop.example/g00989/laws.FnExactCanLast", spec := "fnExactCanLast", apart := false, narrowed := true }
def FnExactCanLastUptoSaid : Prop := fnExactCanLastUptoRow.holds Try.pinned (OpenSpec.upto fnExactCanLastSpec)

/-- 'laws.FnExactIsBorrowed', WHERE WHAT IT READS IS OF BULK AT MOST 1048576: true; the input reads as it did. -/
def fnExactIsBorrowedUptoRow : OpenClaim := { program := "ytbimhcdfojbjgab", sum := "6fa464f34949f7c010f25c21b2ab84a0ef39d90683161483ec9f7a580641da8c", func := "loop.example/g00989/laws.FnExactIsBorrowed", spec := "fnExactIsBorrowed", apart := false, narrowed := true }
def FnExactIsBorrowedUptoSaid : Prop := fnExactIsBorrowedUptoRow.holds Try.pinned (OpenSpec.upto fnExactIsBorrowedSpec)

/-- 'laws.FnExactMixtureOk', WHERE WHAT IT READS IS OF BULK AT MOST 1048576: true; the input reads as it did. -/
def fnExactMixtureOkUptoRow : OpenClaim := { program := "ytbimhcdfojbjgab", sum := "6fa464f34949f7c010f25c21b2ab84a0ef39d90683161483ec9f7a580641da8c", func := "loop.example/g00989/laws.FnExactMixtureOk", spec := "fnExactMixtureOk", apart := false, narrowed := true }
def FnExactMixtureOkUptoSaid : Prop := fnExactMixtureOkUptoRow.holds Try.pinned (OpenSpec.upto fnExactMixtureOkSpec)

/-- 'laws.FnWarmths', WHERE WHAT IT READS IS OF BULK AT MOST 1048576: true; the input reads as it did. -/
def fnWarmthsUptoRow : OpenClaim := { program := "ytbimhcdfojbjgab", sum := "6fa464f34949f7c010f25c21b2ab84a0ef39d90683161483ec9f7a580641da8c", func := "loop.example/g00989/laws.FnWarmths", spec := "fnWarmths", apart := false, narrowed := true }
def FnWarmthsUptoSaid : Prop := fnWarmthsUptoRow.holds Try.pinned (OpenSpec.upto fnWarmthsSpec)

/-- 'laws.FnExactCoupled', WHERE WHAT IT READS IS OF BULK AT MOST 1048576: true; the input reads as it did. -/
def fnExactCoupledUptoRow : OpenClaim := { program := "ytbimhcdfojbjgab", sum := "6fa464f34949f7c010f25c21b2ab84a0ef39d90683161483ec9f7a580641da8c", func := "loop.example/g00989/laws.FnExactCoupled", spec := "fnExactCoupled", apart := false, narrowed := true }
def FnExactCoupledUptoSaid : Prop := fnExactCoupledUptoRow.holds Try.pinned (OpenSpec.upto fnExactCoupledSpec)

/-- 'laws.FnStrings', WHERE WHAT IT READS IS OF BULK AT MOST 1048576: true; the input reads as it did. -/
def fnStringsUptoRow : OpenClaim := { program := "ytbimhcdfojbjgab", sum := "6fa464f34949f7c010f25c21b2ab84a0ef39d90683161483ec9f7a580641da8c", func := "loop.example/g00989/laws.FnStrings", spec := "fnStrings", apart := false, narrowed := true }
def FnStringsUptoSaid : Prop := fnStringsUptoRow.holds Try.pinned (OpenSpec.upto fnStringsSpec)

/-- 'laws.FnExactPumpMoves', WHERE WHAT IT READS IS OF BULK AT MOST 1048576: true; the input reads as it did. -/
def fnExactPumpMovesUptoRow : OpenClaim := { program := "ytbimhcdfojbjgab", sum := "6fa464f34949f7c010f25c21b2ab84a0ef39d90683161483ec9f7a580641da8c", func := "loop.example/g00989/laws.FnExactPumpMoves", spec := "fnExactPumpMoves", apart := false, narrowed := true }
def FnExactPumpMovesUptoSaid : Prop := fnExactPumpMovesUptoRow.holds Try.pinned (OpenSpec.upto fnExactPumpMovesSpec)

/-- 'laws.FnExactBreakAt', WHERE WHAT IT READS IS OF BULK AT MOST 1048576: true; the input reads as it did. -/
def fnExactBreakAtUptoRow : OpenClaim := { program := "ytbimhcdfojbjgab", sum := "6fa464f34949f7c010f25c21b2ab84a0ef39d90683161483ec9f7a580641da8c", func := "loop.example/g00989/laws.FnExactBreakAt", spec := "fnExactBreakAt", apart := false, narrowed := true }
def FnExactBreakAtUptoSaid : Prop := fnExactBreakAtUptoRow.holds Try.pinned (OpenSpec.upto fnExactBreakAtSpec)

/-- 'laws.FnExactRunGlide', WHERE WHAT IT READS IS OF BULK AT MOST 1048576: true; the input reads as it did. -/
def fnExactRunGlideUptoRow : OpenClaim := { program := "ytbimhcdfojbjgab", sum := "6fa464f34949f7c010f25c21b2ab84a0ef39d90683161483ec9f7a580641da8c", func := "loop.example/g00989/laws.FnExactRunGlide", spec := "fnExactRunGlide", apart := false, narrowed := true }
def FnExactRunGlideUptoSaid : Prop := fnExactRunGlideUptoRow.holds Try.pinned (OpenSpec.upto fnExactRunGlideSpec)

/-- 'laws.FnMixtures', WHERE WHAT IT READS IS OF BULK AT MOST 1048576: true; the input reads as it did. -/
def fnMixturesUptoRow : OpenClaim := { program := "ytbimhcdfojbjgab", sum := "6fa464f34949f7c010f25c21b2ab84a0ef39d90683161483ec9f7a580641da8c", func := "loop.example/g00989/laws.FnMixtures", spec := "fnMixtures", apart := false, narrowed := true }
def FnMixturesUptoSaid : Prop := fnMixturesUptoRow.holds Try.pinned (OpenSpec.upto fnMixturesSpec)

/-- 'laws.FnGlides', WHERE WHAT IT READS IS OF BULK AT MOST 1048576: true; the input reads as it did. -/
def fnGlidesUptoRow : OpenClaim := { program := "ytbimhcdfojbjgab", sum := "6fa464f34949f7c010f25c21b2ab84a0ef39d90683161483ec9f7a580641da8c", func := "loop.example/g00989/laws.FnGlides", spec := "fnGlides", apart := false, narrowed := true }
def FnGlidesUptoSaid : Prop := fnGlidesUptoRow.holds Try.pinned (OpenSpec.upto fnGlidesSpec)

end Rows
end Go.Proofs.Ytbimhcdfojbjgab
