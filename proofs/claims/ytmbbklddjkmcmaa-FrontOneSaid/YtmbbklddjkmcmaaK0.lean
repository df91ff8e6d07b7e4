/- The package-level variables of this seat: none. -/
import Derived.Test.YtmbbklddjkmcmaaM5
import Derived.Test.YtmbbklddjkmcmaaProg
namespace Go.Proofs.Ytmbbklddjkmcmaa
set_option linter.unusedSimpArgs false
set_option linter.unusedVariables false
open Go Go.Fw
instance globals : Globals := ⟨fun _ => none⟩
theorem mixed : Try.prog.follows .mixedOrders = true := by kernel_rfl
end Go.Proofs.Ytmbbklddjkmcmaa
