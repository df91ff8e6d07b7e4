/- dom: the walks of DomAbove, with the arguments. -/
import Derived.Test.YtmbbklddjkmcmaaB2
import Derived.Test.YtmbbklddjkmcmaaBR
namespace Go.Proofs.Ytmbbklddjkmcmaa
set_option linter.unusedSimpArgs false
set_option linter.unusedVariables false
end Go.Proofs.Ytmbbklddjkmcmaa
