/- Synced. -/
import Derived.Test.YtagmlgeoefemfaaCfgJoin
import Derived.Deep.DeepCutAuto
namespace Go.Proofs.Ytagmlgeoefemfaa
open Go.RowKit Go.ChangeShapes Go.WideShapes Go.Joins
set_option linter.unusedVariables false

theorem seatsCells_set : ∀ (L : List SeatV) (k : Nat) (s t : SeatV), L[k]? = some s → t.node = s.node → t.life = s.life → (seatsCells L).set (k * 3 + 2) (.bool t.sync) = seatsCells (L.set k t)
  | [], k, s, t, h, _, _ => by simp at h
  | x :: L, 0, s, t, h, hn, hl => by
    obtain rfl : x = s := by simpa using h
    obtain ⟨n, l, b⟩ := t
    simp only at hn hl
    subst hn hl
    rfl
  | x :: L, k + 1, s, t, h, hn, hl => by
    have ih := seatsCells_set L k s t (by simpa using h) hn hl
    have e1 : seatsCells (x :: L) = seatCells x ++ seatsCells L := rfl
    have e2 : seatsCells ((x :: L).set (k + 1) t) = seatCells x ++ seatsCells (L.set k t) := rfl
    rw [e1, e2, ← ih, List.set_append_right _ _ (by simp [seatCells]; omega)]
    congr 2
    simp [seatCells]
    omega
theorem own_store {w : World} {base g cap : Nat} {e : TypeId} {size : Nat} {n j : Nat} {u : Value} {xs : List Value} (h : w.ownsRow base e size (.slice (some ⟨g, 0, none⟩) n cap) n xs) (hj : j < n * size) :
    (w.setCell ⟨g, j, none⟩ u).ownsRow base e size (.slice (some ⟨g, 0, none⟩) n cap) n (xs.set j u) := by
  obtain ⟨h1, h2⟩ := h
  refine ⟨by rw [List.length_set]; exact h1, ?_⟩
  rcases h2 with ⟨h0, _⟩ | ⟨g', cap', cur, hv, hb, hg, hn, hc, hs, ht⟩
  · cases h0
  · cases hv
    refine .inr ⟨g, cap, cur.setIfInBounds j u, rfl, hb, ?_, hn, hc, by simp [hs], ?_⟩
    · simp [World.setCell, Array.getElem?_modify, hg]
    · rw [← ht]
      simp [List.take_set]
theorem seatsOk_set {L : List SeatV} {k : Nat} {t : SeatV} (h : ∀ s ∈ L, SeatOk s) (ht : SeatOk t) : ∀ s ∈ L.set k t, SeatOk s := by
  intro s hs
  rcases List.mem_or_eq_of_mem_set hs with hs | rfl
  · exact h s hs
  · exact ht
theorem place_idx (L : List SeatV) (n l : Int) : placeC L n l = match L.findIdx? (fun s => s.node == n && s.life == l) with | some i => (i : Int) | none => -1 := rfl

end Go.Proofs.Ytagmlgeoefemfaa
