/- The contract of Print. -/
import Derived.Test.YtnfgojecgcienaaOpPut
namespace Go.Proofs.Ytnfgojecgcienaa
open Go.RowKit Go.ChangeShapes Go.WideShapes Go.Joins
set_option linter.unusedVariables false

set_option maxRecDepth 100000 in
set_option maxHeartbeats 1000000 in
theorem print_yes {o : OpV} (ho : OpOk o) (hm : mayOp o = true) (w : World) :
    Calls Try.prog 8 #[.agg (opCells o).toArray] w fun e w' => e = .returned (.tuple #[.string ⟨(encOp o).toArray⟩, .int .i64 0]) ∧ Below w.heap.size w w' := by
  have hP := BlkAt.new w 23 (opCells o)
  have hbel := (Below.refl w.heap.size w).alloc (Nat.le_refl _) (.cells (opCells o).toArray 23)
  have hl := (mayOp_iff.1 hm).2.2
  have HM := Lib.hid hm
  clear hm
  go_enter Try.func8, Try.ntmps8
  go_wp2_with fail
  refine (may_any (by exact hP) ho).mono ?_
  rintro e w' ⟨rfl, rfl⟩
  rw [HM.out]
  obtain ⟨k, v, s⟩ := o
  obtain ⟨a, b, c, d, e, f, g, i, rfl⟩ := list8 ho.1
  obtain ⟨h0, h1, h2, h3, h4, h5, h6, h7, h8, h9⟩ := op_conj hP
  go_wp2_with fail
  refine (put_any ho (show s.length ≤ 1000000 from Nat.le_trans hl (by omega)) _).mono ?_
  rintro e w2 ⟨rfl, b2⟩
  have g2 := below_step hbel b2
  go_wp2_with fail
  go_ret2
  exact ⟨rfl, g2⟩

set_option maxRecDepth 100000 in
set_option maxHeartbeats 1000000 in
theorem print_no {o : OpV} (ho : OpOk o) (hm : mayOp o = false) (w : World) :
    Calls Try.prog 8 #[.agg (opCells o).toArray] w fun e w' => e = .returned (.tuple #[.string ⟨([] : List UInt8).toArray⟩, .int .i64 1]) ∧ Below w.heap.size w w' := by
  have hP := BlkAt.new w 23 (opCells o)
  have hbel := (Below.refl w.heap.size w).alloc (Nat.le_refl _) (.cells (opCells o).toArray 23)
  have HM := Lib.hid hm
  clear hm
  go_enter Try.func8, Try.ntmps8
  go_wp2_with fail
  refine (may_any (by exact hP) ho).mono ?_
  rintro e w' ⟨rfl, rfl⟩
  rw [HM.out]
  go_wp2_with fail
  go_ret2
  exact ⟨rfl, hbel⟩
end Go.Proofs.Ytnfgojecgcienaa
