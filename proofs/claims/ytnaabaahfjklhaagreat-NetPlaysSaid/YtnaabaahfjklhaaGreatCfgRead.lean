/- Read. -/
import Derived.Test.YtnaabaahfjklhaaGreatKCfgC
import Derived.Test.YtnaabaahfjklhaaGreatCfgTake
namespace Go.Proofs.YtnaabaahfjklhaaGreat
open Go.RowKit Go.ChangeShapes Go.WideShapes Go.Joins
set_option linter.unusedVariables false

/-- An error's number: none, or that of a wrong form. -/
def okErr (b : Bool) : Int := if b = true then 0 else 3
theorem readC_of {l l' : List UInt8} {e' : Int} {c : ConfV} (h : takeC l 0 = (c, l', e')) : readC l = if e' = 0 ∧ l' = [] then (c, true) else (confZero, false) := by rw [readC, h]

end Go.Proofs.YtnaabaahfjklhaaGreat
