/- dom: the walks of DomKids, with the arguments. -/
import Derived.Test.YtmbbklddjkmcmaaB3
import Derived.Test.YtmbbklddjkmcmaaBR
namespace Go.Proofs.Ytmbbklddjkmcmaa
set_option linter.unusedSimpArgs false
set_option linter.unusedVariables false
end Go.Proofs.Ytmbbklddjkmcmaa
