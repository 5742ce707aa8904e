/- The document's First. -/
import Derived.Test.YtagmlgeoefemfaaCfgFirst
namespace Go.Proofs.Ytagmlgeoefemfaa
open Go.RowKit Go.ChangeShapes Go.WideShapes Go.Joins
set_option linter.unusedVariables false

end Go.Proofs.Ytagmlgeoefemfaa
