/- front: the walks of FrontSet, with the arguments. -/
import Derived.Test.YtmbbklddjkmcmaaEC
import Derived.Test.YtmbbklddjkmcmaaBR
namespace Go.Proofs.Ytmbbklddjkmcmaa
set_option linter.unusedSimpArgs false
set_option linter.unusedVariables false
end Go.Proofs.Ytmbbklddjkmcmaa
