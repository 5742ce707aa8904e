/- First, and the document's First. -/
import Derived.Test.YtagmlgeoefemfaaCfgRight
namespace Go.Proofs.Ytagmlgeoefemfaa
open Go.RowKit Go.ChangeShapes Go.WideShapes Go.Joins
set_option linter.unusedVariables false

/-- What is handed back: a chain, and something beside it. -/
def ConfRes (w w' : World) (en : Ending) (c : ConfV) (x : Value) : Prop := ∃ v, en = .returned (.tuple #[.agg #[.int .i64 c.epoch, v], x]) ∧ ChainAt w' v c.chain ∧ Below w.heap.size w w'
/-- A chain alone. -/
def ConfOne (w w' : World) (en : Ending) (c : ConfV) : Prop := ∃ v, en = .returned (.agg #[.int .i64 c.epoch, v]) ∧ ChainAt w' v c.chain ∧ Below w.heap.size w w'

theorem below_any' {w w' : World} {row : Option Nat} (h : Below w.heap.size w w') : w.grownBy w' row := ⟨h.os, h.tape, h.output, h.size, fun k hk _ => h.block k hk⟩
theorem own_set {w : World} {base D i : Nat} {e : TypeId} {size : Nat} {v u : Value} {n : Nat} {xs : List Value} (h : w.ownsRow base e size v n xs) (hD : D < base) : (w.setCell ⟨D, i, none⟩ u).ownsRow base e size v n xs := by
  refine h.kept (grown_setCell w D i u) (.inr fun e => ?_)
  have := (h.lt D e).1
  omega
theorem own_below {w w' : World} {base : Nat} {e : TypeId} {size : Nat} {v : Value} {n : Nat} {xs : List Value} (h : w.ownsRow base e size v n xs) (hb : Below w.heap.size w w') : w'.ownsRow base e size v n xs := h.kept (below_any' (row := none) hb) (Classical.em _)
theorem own_ne {w : World} {base D : Nat} {e : TypeId} {size : Nat} {v : Value} {n : Nat} {xs : List Value} (h : w.ownsRow base e size v n xs) (hD : D < base) : some D ≠ v.ownBlock := fun he => by
  have := (h.lt _ he.symm).1
  omega
theorem own_form {w : World} {base : Nat} {e : TypeId} {size : Nat} {v : Value} {n : Nat} {xs : List Value} (h : w.ownsRow base e size v n xs) : ∃ A cap, v = .slice A n cap := by
  rcases h.2 with ⟨rfl, rfl⟩ | ⟨g, cap, cur, rfl, _⟩
  · exact ⟨none, 0, rfl⟩
  · exact ⟨_, cap, rfl⟩
theorem firstSeats_ok (n : Nat) (h : n ≤ 1000) : ∀ s ∈ firstSeats n, SeatOk s := by
  intro s hs
  obtain ⟨i, hi, rfl⟩ := List.mem_map.1 hs
  have := List.mem_range.1 hi
  exact ⟨W64.mk (by show (-9223372036854775808 : Int) ≤ (i : Int); omega) (by show (i : Int) ≤ 9223372036854775807; omega), W64.mk (by show (-9223372036854775808 : Int) ≤ 1; omega) (by show (1 : Int) ≤ 9223372036854775807; omega)⟩
theorem firstSeats_len (n : Nat) : (firstSeats n).length = n := by simp [firstSeats]


end Go.Proofs.Ytagmlgeoefemfaa
