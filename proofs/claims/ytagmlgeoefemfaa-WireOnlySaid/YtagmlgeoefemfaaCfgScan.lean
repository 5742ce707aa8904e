/- The document's Place and Beside; later; the generic functions that look for a member, or a seat. -/
import Derived.Test.YtagmlgeoefemfaaCfgEnds
namespace Go.Proofs.Ytagmlgeoefemfaa
open Go.RowKit Go.ChangeShapes Go.WideShapes Go.Joins
set_option linter.unusedVariables false

end Go.Proofs.Ytagmlgeoefemfaa
