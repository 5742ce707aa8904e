/- The contracts of Place, at, Head, Tail, Next, Ahead. -/
import Derived.Test.YtagmlgeoefemfaaKCfgMay
import Derived.Deep.DeepCutAuto
namespace Go.Proofs.Ytagmlgeoefemfaa
open Go.RowKit Go.ChangeShapes Go.WideShapes Go.Joins
set_option linter.unusedVariables false

theorem fin2 {w W : World} {D : Nat} {T : TypeId} {x y p q : Value} (hD : BlkAt W D T [x, y]) (hb : Below w.heap.size w W) (hDn : w.heap.size ≤ D) :
    BlkAt ((W.setCell ⟨D, 0, none⟩ p).setCell ⟨D, 1, none⟩ q) D T [p, q] ∧ Below w.heap.size w ((W.setCell ⟨D, 0, none⟩ p).setCell ⟨D, 1, none⟩ q) :=
  ⟨(hD.set 0 p).set 1 q, grown_below (grown_below hb (grown_setCell W D 0 p) hDn) (grown_setCell _ D 1 q) hDn⟩

theorem atC_lo {L : List SeatV} {i : Int} (h : i < 0) : atC L i = (0, 0, false) := by rw [atC, if_pos h]
theorem atC_hi {L : List SeatV} {i : Int} (h : (L.length : Int) ≤ i) : atC L i = (0, 0, false) := by
  rw [atC, if_neg (by omega), List.getElem?_eq_none (by omega)]
theorem atC_in {L : List SeatV} {i : Nat} {s : SeatV} (h : L[i]? = some s) : atC L i = (s.node, s.life, true) := by
  rw [atC, if_neg (by omega), Int.toNat_natCast, h]

end Go.Proofs.Ytagmlgeoefemfaa
