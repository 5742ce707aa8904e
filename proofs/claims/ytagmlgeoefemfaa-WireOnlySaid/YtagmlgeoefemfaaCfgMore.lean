/- later, ContainsFunc, Clone, Equal, same. -/
import Derived.Test.YtagmlgeoefemfaaCfgIdx
namespace Go.Proofs.Ytagmlgeoefemfaa
open Go.RowKit Go.ChangeShapes Go.WideShapes Go.Joins
set_option linter.unusedVariables false

end Go.Proofs.Ytagmlgeoefemfaa
