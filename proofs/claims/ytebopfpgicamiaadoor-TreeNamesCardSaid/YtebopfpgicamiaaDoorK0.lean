/- tree: the package-level variables of this seat. -/
import Derived.Test.YtebopfpgicamiaaDoorV2
import Derived.Test.YtebopfpgicamiaaDoorProg
namespace Go.Proofs.YtebopfpgicamiaaDoor
set_option linter.unusedSimpArgs false
set_option linter.unusedVariables false
open Go Go.Fw
theorem mixed : Tryd.prog.follows .mixedOrders = true := by kernel_rfl
def exprTabCells : List AV := exprTab.flatMap EShape.cells
def stmtTabCells : List AV := stmtTab.flatMap SShape.cells
instance globals : Globals := ⟨fun g => if g = 0 then some exprTabCells else if g = 2 then some stmtTabCells else if g = 1 then some resCells else none⟩
theorem gptr_exprs : gptr 0 = .ip exprTabCells 0 := rfl
theorem gptr_stmts : gptr 2 = .ip stmtTabCells 0 := rfl
theorem gptr_res : gptr 1 = .ip resCells 0 := rfl
end Go.Proofs.YtebopfpgicamiaaDoor
