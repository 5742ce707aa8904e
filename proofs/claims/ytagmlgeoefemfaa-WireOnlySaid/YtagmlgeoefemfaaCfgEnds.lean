/- The contracts of Head, Tail, Next, Ahead, and the document's At, Place, Beside. -/
import Derived.Test.YtagmlgeoefemfaaCfgPlace
namespace Go.Proofs.Ytagmlgeoefemfaa
open Go.RowKit Go.ChangeShapes Go.WideShapes Go.Joins
set_option linter.unusedVariables false

/-- The one behind a member; the one ahead. -/
def nextC (L : List SeatV) (n l : Int) : Int × Int × Bool := if placeC L n l < 0 then (0, 0, false) else atC L (placeC L n l + 1)
def aheadC (L : List SeatV) (n l : Int) : Int × Int × Bool := atC L (placeC L n l - 1)
theorem place_range (L : List SeatV) (n l : Int) : -1 ≤ placeC L n l ∧ placeC L n l < L.length := by
  rcases placeBy_facts (fun s => s.node == n && s.life == l) L with ⟨h, _⟩ | ⟨k, s, h, hk, _⟩
  · rw [placeC, h]
    omega
  · have := (List.getElem?_eq_some_iff.1 hk).1
    rw [placeC, h]
    omega

end Go.Proofs.Ytagmlgeoefemfaa
