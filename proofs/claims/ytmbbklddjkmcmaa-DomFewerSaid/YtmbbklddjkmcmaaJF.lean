/- dom: the walks of DomFewer, with the arguments. -/
import Derived.Test.YtmbbklddjkmcmaaB6
import Derived.Test.YtmbbklddjkmcmaaBR
namespace Go.Proofs.Ytmbbklddjkmcmaa
set_option linter.unusedSimpArgs false
set_option linter.unusedVariables false
end Go.Proofs.Ytmbbklddjkmcmaa
