/- The document's Beside; slices.Index and slices.Contains of members and of seats. -/
import Derived.Test.YtagmlgeoefemfaaCfgScan
namespace Go.Proofs.Ytagmlgeoefemfaa
open Go.RowKit Go.ChangeShapes Go.WideShapes Go.Joins
set_option linter.unusedVariables false

/-- Members in memory: G. -/
def MemsAt (w : World) (a : Option Addr) (G : List (Int × Int)) : Prop :=
  G.length ≤ maxLen ∧ (0 < G.length → ∃ b off, a = some ⟨b, off, none⟩ ∧ b < w.heap.size ∧ ∀ i g, G[i]? = some g → w.cell? ⟨b, off + i * 2, none⟩ = some (.int .i64 g.1) ∧ w.cell? ⟨b, off + i * 2 + 1, none⟩ = some (.int .i64 g.2))
/-- A slice that is the members G. -/
def MemsV (w : World) (v : Value) (G : List (Int × Int)) : Prop := ∃ a cap, v = .slice a G.length cap ∧ MemsAt w a G
theorem MemsAt.below {w w' : World} {a : Option Addr} {G : List (Int × Int)} {n : Nat} (h : MemsAt w a G) (hb : Below n w w') (hn : n = w.heap.size) : MemsAt w' a G := by
  subst hn
  refine ⟨h.1, fun hp => ?_⟩
  obtain ⟨b, off, ha, hlt, hc⟩ := h.2 hp
  exact ⟨b, off, ha, Nat.lt_of_lt_of_le hlt hb.size, fun i g hi => ⟨(hb.cell (p := ⟨b, _, none⟩) hlt).trans (hc i g hi).1, (hb.cell (p := ⟨b, _, none⟩) hlt).trans (hc i g hi).2⟩⟩
theorem MemsV.below {w w' : World} {v : Value} {G : List (Int × Int)} (h : MemsV w v G) (hb : Below w.heap.size w w') : MemsV w' v G := by
  obtain ⟨a, cap, rfl, hs⟩ := h
  exact ⟨a, cap, rfl, hs.below hb rfl⟩
theorem MemsV.nil (w : World) : MemsV w (.slice none 0 0) [] := ⟨none, 0, rfl, Nat.zero_le _, by simp⟩

/-- The one so many behind a member. -/
def besideC (L : List SeatV) (n l d : Int) : Int × Int × Bool := if placeC L n l < 0 then (0, 0, false) else atC L (placeC L n l + d)
theorem beside_next (L : List SeatV) (n l : Int) : besideC L n l 1 = nextC L n l := rfl
theorem beside_ahead (L : List SeatV) (n l : Int) : besideC L n l (-1) = aheadC L n l := by
  have := place_range L n l
  rw [besideC, aheadC]
  split
  · rw [atC_lo (by omega)]
  · rfl

end Go.Proofs.Ytagmlgeoefemfaa
