/- The document's Join. -/
import Derived.Test.YtagmlgeoefemfaaCfgQWithout
namespace Go.Proofs.Ytagmlgeoefemfaa
open Go.RowKit Go.ChangeShapes Go.WideShapes Go.Joins
set_option linter.unusedVariables false
theorem any_false {p : SeatV → Bool} {L : List SeatV} (h : ∀ j t, j < L.length → L[j]? = some t → p t = false) : L.any p = false := by
  rw [List.any_eq_false]
  intro t ht
  obtain ⟨j, hj⟩ := List.getElem?_of_mem ht
  simp [h j t (List.getElem?_eq_some_iff.1 hj).1 hj]
theorem any_true {p : SeatV → Bool} {L : List SeatV} {k : Nat} {t : SeatV} (h : L[k]? = some t) (hp : p t = true) : L.any p = true :=
  List.any_eq_true.2 ⟨t, List.mem_of_getElem? h, hp⟩
theorem own_drewN {w : World} {base : Nat} {e : TypeId} {size : Nat} {v : Value} {n : Nat} {xs : List Value} (h : w.ownsRow base e size v n xs) (m : Nat) : (w.drewN m).ownsRow base e size v n xs := h
theorem take_snoc_len {L : List SeatV} {k : Nat} (h : k ≤ L.length) : (L.take k).length = k := by rw [List.length_take]; omega

end Go.Proofs.Ytagmlgeoefemfaa
