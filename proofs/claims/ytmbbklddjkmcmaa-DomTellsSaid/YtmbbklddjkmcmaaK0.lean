/- The package-level variables of this seat: none. -/
import Derived.Test.YtmbbklddjkmcmaaM5
import Derived.Test.YtmbbklddjkmcmaaProg
namespace Go.Proofs.Ytmbbklddjkmcmaa
open Go Go.Fw
instance globals : Globals := ⟨fun _ => none⟩
theorem mixed : Try.prog.follows .mixedOrders = true := by kernel_rfl
end Go.Proofs.Ytmbbklddjkmcmaa
