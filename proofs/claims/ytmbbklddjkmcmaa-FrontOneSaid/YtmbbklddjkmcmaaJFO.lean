/- front: the walks of FrontOne, with the arguments. -/
import Derived.Test.YtmbbklddjkmcmaaEK
import Derived.Test.YtmbbklddjkmcmaaBS
namespace Go.Proofs.Ytmbbklddjkmcmaa
set_option linter.unusedSimpArgs false
set_option linter.unusedVariables false
end Go.Proofs.Ytmbbklddjkmcmaa
