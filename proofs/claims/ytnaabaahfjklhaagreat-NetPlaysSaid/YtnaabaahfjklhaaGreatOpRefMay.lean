/- The contract of the document's may. -/
import Derived.Test.YtnaabaahfjklhaaGreatKOp1
import Derived.Test.YtnaabaahfjklhaaGreatKCodec
namespace Go.Proofs.YtnaabaahfjklhaaGreat
open Go.RowKit Go.ChangeShapes Go.WideShapes Go.Joins
set_option linter.unusedVariables false

theorem below_any {w w' : World} {row : Option Nat} (h : Below w.heap.size w w') : w.grownBy w' row := ⟨h.os, h.tape, h.output, h.size, fun k hk _ => h.block k hk⟩

set_option maxRecDepth 100000 in
set_option maxHeartbeats 1000000 in
theorem qmay_any {o : OpV} (ho : OpOk o) (w : World) :
    Calls Tryz.prog 45 #[.agg (opCells o).toArray] w fun e w' => e = .returned (.bool (mayOp o)) ∧ Below w.heap.size w w' := by
  have hP := BlkAt.new w 31 (opCells o)
  have hbel := (Below.refl w.heap.size w).alloc (Nat.le_refl _) (.cells (opCells o).toArray 31)
  have c0 := hP.cell (op_cell0 o)
  have c9 := hP.cell (op_cell9 ho.1)
  have hl := ho.2.2.2
  unfold maxLen at hl
  clear hP
  by_cases h1 : 0 ≤ o.kind
  · by_cases h2 : o.kind ≤ 3
    · have HM := Lib.hid (show mayOp o = decide ((o.cron.length : Int) ≤ 256) by rw [Bool.eq_iff_iff, mayOp_iff, decide_eq_true_eq]; omega)
      go_enter Tryz.func45, Tryz.ntmps45
      go_wp2_with fail
      go_ret
      exact ⟨by rw [HM.out]; rfl, hbel⟩
    · have HM := Lib.hid (show mayOp o = false by rw [Bool.eq_false_iff]; intro h; rw [mayOp_iff] at h; omega)
      go_enter Tryz.func45, Tryz.ntmps45
      go_wp2_with fail
      go_ret
      exact ⟨by rw [HM.out]; rfl, hbel⟩
  · have HM := Lib.hid (show mayOp o = false by rw [Bool.eq_false_iff]; intro h; rw [mayOp_iff] at h; omega)
    go_enter Tryz.func45, Tryz.ntmps45
    go_wp2_with fail
    go_ret
    exact ⟨by rw [HM.out]; rfl, hbel⟩

end Go.Proofs.YtnaabaahfjklhaaGreat
