/- dom: the walks of DomNames, with the arguments. -/
import Derived.Test.YtmbbklddjkmcmaaC7
import Derived.Test.YtmbbklddjkmcmaaBR
namespace Go.Proofs.Ytmbbklddjkmcmaa
set_option linter.unusedSimpArgs false
set_option linter.unusedVariables false
end Go.Proofs.Ytmbbklddjkmcmaa
