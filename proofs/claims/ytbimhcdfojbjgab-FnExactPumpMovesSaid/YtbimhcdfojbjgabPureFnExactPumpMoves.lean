/- The plain law of FnExactPumpMoves: the printed function of the law answers true. Its conditions are those of the statement's own bounds. -/
import Derived.Test.YtbimhcdfojbjgabPFnExactPumpMovesx2
namespace Go.Proofs.Ytbimhcdfojbjgab.Pure
open Go.RowKit Go.Proofs.Ytbimhcdfojbjgab.PFnExactPumpMoves Go.Proofs.YtbimhcdfojbjgabW.PrintWords Go.Proofs.YtbimhcdfojbjgabW.PrintLast Go.Proofs.YtbimhcdfojbjgabW.PrintMore
set_option linter.unusedVariables false
theorem FnExactPumpMoves : laws_FnExactPumpMoves.Pure := ⟨10, by decide +kernel⟩
end Go.Proofs.Ytbimhcdfojbjgab.Pure
