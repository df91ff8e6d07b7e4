/- The package-level variables of this seat. -/
import Derived.Test.YtmgmgeijfkcglaaDoorC0
namespace Go.Proofs.YtmgmgeijfkcglaaDoor
open Go Go.Fw
instance globals : Globals := ⟨fun g => if g = 0 then some opCells else none⟩
end Go.Proofs.YtmgmgeijfkcglaaDoor
