/- front: the walks of FrontBehind, with the arguments. -/
import Derived.Test.YtmbbklddjkmcmaaED
import Derived.Test.YtmbbklddjkmcmaaBR
namespace Go.Proofs.Ytmbbklddjkmcmaa
set_option linter.unusedSimpArgs false
set_option linter.unusedVariables false
end Go.Proofs.Ytmbbklddjkmcmaa
