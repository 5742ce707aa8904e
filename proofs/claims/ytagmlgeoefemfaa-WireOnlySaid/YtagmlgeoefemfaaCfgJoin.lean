/- Join. -/
import Derived.Test.YtagmlgeoefemfaaCfgWithout
import Derived.Deep.RegionLaw
namespace Go.Proofs.Ytagmlgeoefemfaa
open Go.RowKit Go.ChangeShapes Go.WideShapes Go.Joins
set_option linter.unusedVariables false

theorem news_below {w0 w : World} {B : Nat} {cs : Array Value} {t : TypeId} {fr : Nat × Nat} (hb : w0.heap[B]? = some (.cells cs t fr)) (h : Below w0.heap.size w0 w) : ∀ j u, cs.toList[j]? = some u → w.cell? ((⟨B, 0, none⟩ : Addr).add j) = some u :=
  World.news_of_block ((h.block B (Array.getElem?_eq_some_iff.1 hb).1).trans hb)
theorem own_base' {w : World} {base base' : Nat} {e : TypeId} {size : Nat} {v : Value} {n : Nat} {xs : List Value} (h : w.ownsRow base e size v n xs) (hb : base' ≤ base) : w.ownsRow base' e size v n xs := by
  refine ⟨h.1, ?_⟩
  rcases h.2 with h0 | ⟨g, cap, cur, hv, hg, r⟩
  · exact .inl h0
  · exact .inr ⟨g, cap, cur, hv, Nat.le_trans hb hg, r⟩
theorem seatsOk_all {L : List SeatV} {n l : Int} {b : Bool} (h : ∀ s ∈ L, SeatOk s) (hn : W64 n) (hl : W64 l) : ∀ s ∈ L ++ [⟨n, l, b⟩], SeatOk s := by
  intro s hs
  rcases List.mem_append.1 hs with hs | hs
  · exact h s hs
  · obtain rfl : s = ⟨n, l, b⟩ := by simpa using hs
    exact ⟨hn, hl⟩

end Go.Proofs.Ytagmlgeoefemfaa
