/- Worlds that grow: writes to blocks of the call's own. -/
import Derived.Test.YtoiaigbagfalmaaCommon
namespace Go.Proofs.Ytoiaigbagfalmaa
open Go.RowKit Go.ChangeShapes Go.WideShapes Go.Joins
set_option linter.unusedVariables false

theorem grown_far {w w1 w2 : World} {row : Option Nat} {c : Nat} (h : w.grownBy w1 row) (g : w1.grownBy w2 (some c)) (hc : w.heap.size ≤ c) : w.grownBy w2 row :=
  ⟨g.os.trans h.os, g.tape.trans h.tape, g.output.trans h.output, Nat.le_trans h.size g.size, fun k hk hr => (g.block k (Nat.lt_of_lt_of_le hk h.size) (fun e => by cases e; omega)).trans (h.block k hk hr)⟩
theorem grown_alloc {w w1 : World} {row : Option Nat} (h : w.grownBy w1 row) (o : Obj) : w.grownBy (w1.alloc o) row := h.trans (World.grownBy_alloc w1 o row)
end Go.Proofs.Ytoiaigbagfalmaa
