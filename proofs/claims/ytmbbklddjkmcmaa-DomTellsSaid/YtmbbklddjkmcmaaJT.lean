/- dom: the walks of DomTells, with the arguments. -/
import Derived.Test.YtmbbklddjkmcmaaC6
import Derived.Test.YtmbbklddjkmcmaaBR
namespace Go.Proofs.Ytmbbklddjkmcmaa
end Go.Proofs.Ytmbbklddjkmcmaa
