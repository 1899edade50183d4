-- PRINTED BY print.sh 35421559b90ae4d0a3588c463048766b98c2df88dd9212a6774a882060cdf62d: not written by this session
import Derived.Test.YtiifemlnknochaaProg
import Derived.Below
import Derived.Deep.Draws
import Derived.Deep.AppendLies
import Derived.Maps.AppendAt
import Derived.OwnWalk
import Derived.Laws.BytesArg
import Derived.Laws.MakeOwn
import Derived.Laws.OwnMore
import Derived.Deep.OwnRows
import Derived.Tactics
import Derived.Lib.ConvBytes
import Derived.Laws.Slices
import Derived.WalkKit
import Derived.KernelRfl
import Derived.RowKit3
import Derived.Deep.LoopGhost
import Derived.Deep.QuietTactic
import Derived.BigQuiet
import Derived.WideLaws
import Derived.Deep.DeepCutAuto
import Derived.Deep.CutBlock
import Derived.Deep.RegionHeld3
import Derived.Laws.Rows
import Derived.Lib.AppendStr
import Derived.ArgAppend
import Derived.Laws.IdiomCopy
import Derived.OrdersHeld
import Derived.Laws.BitsLemmas
import Derived.RowKit
import Derived.Test.YtiifemlnknochaaWWords
import Derived.Test.YtiifemlnknochaaWLast
import Derived.Test.YtiifemlnknochaaWTab
import Derived.Test.YtiifemlnknochaaWFour
import Derived.Test.YtiifemlnknochaaWQPut
import Derived.Test.YtiifemlnknochaaWApart
import Derived.Test.YtiifemlnknochaaWArr
import Derived.Test.YtiifemlnknochaaWZeros
import Derived.Test.YtiifemlnknochaaWFoot
import Derived.Test.YtiifemlnknochaaWKept
import Derived.Test.YtiifemlnknochaaWShare
import Derived.Test.YtiifemlnknochaaWN
import Derived.Test.YtiifemlnknochaaWFootNe
import Derived.Test.YtiifemlnknochaaWAt
import Derived.Test.YtiifemlnknochaaWEqStruct
import Derived.Test.YtiifemlnknochaaWRepsOne
import Derived.Test.YtiifemlnknochaaWInv
import Derived.Test.YtiifemlnknochaaWInvWords
import Derived.Test.YtiifemlnknochaaWGuard
import Derived.Test.YtiifemlnknochaaWNEv
import Derived.Test.YtiifemlnknochaaWMore
namespace Go.Proofs.Ytiifemlnknochaa.PFnExactStoppedLength
open Go.RowKit Go.Proofs.YtiifemlnknochaaW.PrintWords Go.Proofs.YtiifemlnknochaaW.PrintLast Go.Proofs.YtiifemlnknochaaW.PrintMore
attribute [local go_sem] max2_int min2_int max_two min_two max_three min_three max_four min_four   -- for this text's walks alone
set_option linter.unusedVariables false
set_option linter.unusedSimpArgs false



def errW : Option Int → Value
  | none => .nilIface
  | some c => .iface 0 (.int .i64 c)
theorem errW_none : errW none = .nilIface := rfl
theorem errW_some (c : Int) : errW (some c) = .iface 0 (.int .i64 c) := rfl

-- the values' own types

end Go.Proofs.Ytiifemlnknochaa.PFnExactStoppedLength
