/- The document's Scan: the records of bytes. -/
import Derived.Test.YtomfmejodmfioaaGreatKStB
import Derived.Deep.RegionHeld3
import Derived.Deep.DeepCutAuto
namespace Go.Proofs.YtomfmejodmfioaaGreat
open Go.RowKit Go.ChangeShapes Go.WideShapes Go.Joins Go.Deep
set_option linter.unusedVariables false

theorem i64_wrap64 (x : Int) : IntKind.i64.wrap x = wrap64 x := by rw [IntKind.wrap_i64]; unfold wrap64; omega

end Go.Proofs.YtomfmejodmfioaaGreat
