/- The opbytes laws' first line: awake answers true, and turns nothing that was there. -/
import Derived.Test.YtnfgojecgcienaaOpLaws
import Derived.Test.YtnfgojecgcienaaOpPrint
namespace Go.Proofs.Ytnfgojecgcienaa
open Go.RowKit Go.ChangeShapes Go.WideShapes Go.Joins
set_option linter.unusedVariables false

def opOne : OpV := ⟨3, [0, 0, 1, 0, 0, 0, 0, 0], []⟩
def opFour : OpV := ⟨4, [0, 0, 0, 0, 0, 0, 0, 0], []⟩
theorem w0 : W64 0 := W64.mk (by decide) (by decide)
theorem opOne_ok : OpOk opOne := ⟨rfl, W64.mk (by decide) (by decide), by
  intro x hx
  have : x = 0 ∨ x = 1 := by simp [opOne] at hx; omega
  exact W64.mk (by omega) (by omega), by decide⟩
theorem opFour_ok : OpOk opFour := ⟨rfl, W64.mk (by decide) (by decide), by intro x hx; simp [opFour] at hx; rw [hx]; exact w0, by decide⟩
theorem op_zlit : (opCells opZero).toArray = #[.int .i64 0, .int .i64 0, .int .i64 0, .int .i64 0, .int .i64 0, .int .i64 0, .int .i64 0, .int .i64 0, .int .i64 0, .string ⟨#[]⟩] := rfl

set_option maxRecDepth 100000 in
set_option maxHeartbeats 1000000 in
theorem awake_any (w : World) : Calls Try.prog 7 #[] w fun e w' => e = .returned (.bool true) ∧ Below w.heap.size w w' := by
  have E1 := Lib.hid (show encOp opOne = [3, 0, 0, 2, 0, 0, 0, 0, 0, 0] by decide +kernel)
  have E2 := Lib.hid (show readOp [3, 0, 0, 2, 0, 0, 0, 0, 0, 0, 120] = (opZero, false) by decide +kernel)
  have E3 := Lib.hid (show readOp [3, 0, 0, 2, 0, 0, 0, 0, 0, 0] = (opOne, true) by decide +kernel)
  go_enter Try.func7, Try.ntmps7
  go_wp2_with fail
  refine (print_yes (o := opOne) opOne_ok (by decide) _).mono ?_
  rintro e w1 ⟨rfl, b1⟩
  rw [E1.out]
  go_wp2_with fail
  refine (oread_any [3, 0, 0, 2, 0, 0, 0, 0, 0, 0, 120] (by decide) _).mono ?_
  rintro e w2 ⟨rfl, b2⟩
  have hb2 := below_step b1 b2
  rw [E2.out, op_zlit, show rdErr (opZero, false).2 = 3 from rfl]
  clear b1 b2
  go_wp2_with fail
  refine (print_no (o := opFour) opFour_ok (by decide) _).mono ?_
  rintro e w3 ⟨rfl, b3⟩
  have hb3 : Below w.heap.size w w3 := below_step (by exact hb2.alloc hb2.size _) b3
  clear hb2 b3
  go_wp2_with fail
  refine (oread_any [3, 0, 0, 2, 0, 0, 0, 0, 0, 0] (by decide) _).mono ?_
  rintro e w4 ⟨rfl, b4⟩
  have hb4 := below_step hb3 b4
  rw [E3.out, show (opCells (opOne, true).1).toArray = #[.int .i64 3, .int .i64 0, .int .i64 0, .int .i64 1, .int .i64 0, .int .i64 0, .int .i64 0, .int .i64 0, .int .i64 0, .string ⟨#[]⟩] from rfl, show rdErr (opOne, true).2 = 0 from rfl]
  clear hb3 b4
  go_wp2_with fail
  go_ret
  exact ⟨rfl, hb4.alloc hb4.size _⟩
end Go.Proofs.Ytnfgojecgcienaa
