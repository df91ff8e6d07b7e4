/- front: the walks of FrontTells, with the arguments. -/
import Derived.Test.YtmbbklddjkmcmaaEI
import Derived.Test.YtmbbklddjkmcmaaBS
namespace Go.Proofs.Ytmbbklddjkmcmaa
set_option linter.unusedSimpArgs false
set_option linter.unusedVariables false
end Go.Proofs.Ytmbbklddjkmcmaa
