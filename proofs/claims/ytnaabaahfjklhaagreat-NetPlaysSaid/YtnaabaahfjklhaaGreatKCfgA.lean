/- The contracts of Place, at, Head, Tail, Next, Ahead. The contracts of Head, Tail, Next, Ahead, and the document's At, Place, Beside. The document's Place and Beside; later; the generic functions that look for a member, or a seat. The document's Beside; slices.Index and slices.Contains of members and of seats. later, ContainsFunc, Clone, Equal, same. -/
import Derived.Test.YtnaabaahfjklhaaGreatKCfgMay
import Derived.Deep.DeepCutAuto
namespace Go.Proofs.YtnaabaahfjklhaaGreat
open Go.RowKit Go.ChangeShapes Go.WideShapes Go.Joins
set_option linter.unusedVariables false

theorem fin2 {w W : World} {D : Nat} {T : TypeId} {x y p q : Value} (hD : BlkAt W D T [x, y]) (hb : Below w.heap.size w W) (hDn : w.heap.size ≤ D) :
    BlkAt ((W.setCell ⟨D, 0, none⟩ p).setCell ⟨D, 1, none⟩ q) D T [p, q] ∧ Below w.heap.size w ((W.setCell ⟨D, 0, none⟩ p).setCell ⟨D, 1, none⟩ q) :=
  ⟨(hD.set 0 p).set 1 q, grown_below (grown_below hb (grown_setCell W D 0 p) hDn) (grown_setCell _ D 1 q) hDn⟩

theorem atC_lo {L : List SeatV} {i : Int} (h : i < 0) : atC L i = (0, 0, false) := by rw [atC, if_pos h]
theorem atC_hi {L : List SeatV} {i : Int} (h : (L.length : Int) ≤ i) : atC L i = (0, 0, false) := by
  rw [atC, if_neg (by omega), List.getElem?_eq_none (by omega)]
theorem atC_in {L : List SeatV} {i : Nat} {s : SeatV} (h : L[i]? = some s) : atC L i = (s.node, s.life, true) := by
  rw [atC, if_neg (by omega), Int.toNat_natCast, h]

end Go.Proofs.YtnaabaahfjklhaaGreat
namespace Go.Proofs.YtnaabaahfjklhaaGreat
open Go.RowKit Go.ChangeShapes Go.WideShapes Go.Joins
set_option linter.unusedVariables false

/-- The one behind a member; the one ahead. -/
def nextC (L : List SeatV) (n l : Int) : Int × Int × Bool := if placeC L n l < 0 then (0, 0, false) else atC L (placeC L n l + 1)
def aheadC (L : List SeatV) (n l : Int) : Int × Int × Bool := atC L (placeC L n l - 1)
theorem place_range (L : List SeatV) (n l : Int) : -1 ≤ placeC L n l ∧ placeC L n l < L.length := by
  rcases placeBy_facts (fun s => s.node == n && s.life == l) L with ⟨h, _⟩ | ⟨k, s, h, hk, _⟩
  · rw [placeC, h]
    omega
  · have := (List.getElem?_eq_some_iff.1 hk).1
    rw [placeC, h]
    omega

end Go.Proofs.YtnaabaahfjklhaaGreat
namespace Go.Proofs.YtnaabaahfjklhaaGreat
open Go.RowKit Go.ChangeShapes Go.WideShapes Go.Joins
set_option linter.unusedVariables false

end Go.Proofs.YtnaabaahfjklhaaGreat
namespace Go.Proofs.YtnaabaahfjklhaaGreat
open Go.RowKit Go.ChangeShapes Go.WideShapes Go.Joins
set_option linter.unusedVariables false

/-- Members in memory: G. -/
def MemsAt (w : World) (a : Option Addr) (G : List (Int × Int)) : Prop :=
  G.length ≤ maxLen ∧ (0 < G.length → ∃ b off, a = some ⟨b, off, none⟩ ∧ b < w.heap.size ∧ ∀ i g, G[i]? = some g → w.cell? ⟨b, off + i * 2, none⟩ = some (.int .i64 g.1) ∧ w.cell? ⟨b, off + i * 2 + 1, none⟩ = some (.int .i64 g.2))
/-- A slice that is the members G. -/
def MemsV (w : World) (v : Value) (G : List (Int × Int)) : Prop := ∃ a cap, v = .slice a G.length cap ∧ MemsAt w a G
theorem MemsAt.below {w w' : World} {a : Option Addr} {G : List (Int × Int)} {n : Nat} (h : MemsAt w a G) (hb : Below n w w') (hn : n = w.heap.size) : MemsAt w' a G := by
  subst hn
  refine ⟨h.1, fun hp => ?_⟩
  obtain ⟨b, off, ha, hlt, hc⟩ := h.2 hp
  exact ⟨b, off, ha, Nat.lt_of_lt_of_le hlt hb.size, fun i g hi => ⟨(hb.cell (p := ⟨b, _, none⟩) hlt).trans (hc i g hi).1, (hb.cell (p := ⟨b, _, none⟩) hlt).trans (hc i g hi).2⟩⟩
theorem MemsV.below {w w' : World} {v : Value} {G : List (Int × Int)} (h : MemsV w v G) (hb : Below w.heap.size w w') : MemsV w' v G := by
  obtain ⟨a, cap, rfl, hs⟩ := h
  exact ⟨a, cap, rfl, hs.below hb rfl⟩
theorem MemsV.nil (w : World) : MemsV w (.slice none 0 0) [] := ⟨none, 0, rfl, Nat.zero_le _, by simp⟩

/-- The one so many behind a member. -/
def besideC (L : List SeatV) (n l d : Int) : Int × Int × Bool := if placeC L n l < 0 then (0, 0, false) else atC L (placeC L n l + d)
theorem beside_next (L : List SeatV) (n l : Int) : besideC L n l 1 = nextC L n l := rfl
theorem beside_ahead (L : List SeatV) (n l : Int) : besideC L n l (-1) = aheadC L n l := by
  have := place_range L n l
  rw [besideC, aheadC]
  split
  · rw [atC_lo (by omega)]
  · rfl

end Go.Proofs.YtnaabaahfjklhaaGreat
namespace Go.Proofs.YtnaabaahfjklhaaGreat
open Go.RowKit Go.ChangeShapes Go.WideShapes Go.Joins
set_option linter.unusedVariables false

end Go.Proofs.YtnaabaahfjklhaaGreat
