/- The contract of may: may an operation be? -/
import Derived.Test.YtnfgojecgcienaaOpPlain
namespace Go.Proofs.Ytnfgojecgcienaa
open Go.RowKit Go.ChangeShapes Go.WideShapes Go.Joins
set_option linter.unusedVariables false

theorem op_cell0 (o : OpV) : (opCells o)[0]? = some (.int .i64 o.kind) := rfl
theorem op_cell9 {o : OpV} (h : o.v.length = 8) : (opCells o)[9]? = some (.string ⟨o.cron.toArray⟩) := by
  simp [opCells, icells, h]
theorem op_cellv {o : OpV} {j : Nat} {x : Int} (h : o.v[j]? = some x) : (opCells o)[1 + j]? = some (.int .i64 x) := by
  have hl := (List.getElem?_eq_some_iff.1 h).1
  rw [Nat.add_comm, opCells, List.getElem?_cons_succ, List.getElem?_append_left (by rw [icells_len]; exact hl), icells_get h]

theorem ret_boolb {a b : Bool} (h : a = b) : Ending.returned (.bool a) = .returned (.bool b) := by rw [h]

set_option maxRecDepth 100000 in
set_option maxHeartbeats 1000000 in
theorem may_any {w : World} {b : Nat} {o : OpV} (h : BlkAt w b 23 (opCells o)) (ho : OpOk o) :
    Calls Try.prog 19 #[.pointer (some ⟨b, 0, none⟩)] w fun e w' => e = .returned (.bool (mayOp o)) ∧ w = w' := by
  have c0 := h.cell (op_cell0 o)
  have c9 := h.cell (op_cell9 ho.1)
  have hl := ho.2.2.2
  unfold maxLen at hl
  clear h
  by_cases h1 : 0 ≤ o.kind
  · by_cases h2 : o.kind ≤ 3
    · have HM := Lib.hid (show mayOp o = decide ((o.cron.length : Int) ≤ 256) by rw [Bool.eq_iff_iff, mayOp_iff, decide_eq_true_eq]; omega)
      go_enter Try.func19, Try.ntmps19
      go_wp2_with fail
      go_ret
      exact ⟨by rw [HM.out]; rfl, rfl⟩
    · have HM := Lib.hid (show mayOp o = false by rw [Bool.eq_false_iff]; intro h; rw [mayOp_iff] at h; omega)
      go_enter Try.func19, Try.ntmps19
      go_wp2_with fail
      go_ret
      exact ⟨by rw [HM.out]; rfl, rfl⟩
  · have HM := Lib.hid (show mayOp o = false by rw [Bool.eq_false_iff]; intro h; rw [mayOp_iff] at h; omega)
    go_enter Try.func19, Try.ntmps19
    go_wp2_with fail
    go_ret
    exact ⟨by rw [HM.out]; rfl, rfl⟩

theorem list8 {v : List Int} (h : v.length = 8) : ∃ a b c d e f g i, v = [a, b, c, d, e, f, g, i] := by
  match v, h with
  | [a, b, c, d, e, f, g, i], _ => exact ⟨a, b, c, d, e, f, g, i, rfl⟩

/-- The ten cells of an operation. -/
def OpS (B : Nat) (k a b c d e f g i : Int) (s : List UInt8) (w : World) : Prop :=
  w.cell? ⟨B, 0, none⟩ = some (.int .i64 k) ∧ w.cell? ⟨B, 1, none⟩ = some (.int .i64 a) ∧ w.cell? ⟨B, 2, none⟩ = some (.int .i64 b) ∧ w.cell? ⟨B, 3, none⟩ = some (.int .i64 c) ∧
  w.cell? ⟨B, 4, none⟩ = some (.int .i64 d) ∧ w.cell? ⟨B, 5, none⟩ = some (.int .i64 e) ∧ w.cell? ⟨B, 6, none⟩ = some (.int .i64 f) ∧ w.cell? ⟨B, 7, none⟩ = some (.int .i64 g) ∧
  w.cell? ⟨B, 8, none⟩ = some (.int .i64 i) ∧ w.cell? ⟨B, 9, none⟩ = some (.string ⟨s.toArray⟩)
theorem op_conj {B : Nat} {T : TypeId} {k a b c d e f g i : Int} {s : List UInt8} {w : World} (h : BlkAt w B T (opCells ⟨k, [a, b, c, d, e, f, g, i], s⟩)) : OpS B k a b c d e f g i s w :=
  ⟨h.cell rfl, h.cell rfl, h.cell rfl, h.cell rfl, h.cell rfl, h.cell rfl, h.cell rfl, h.cell rfl, h.cell rfl, h.cell rfl⟩

end Go.Proofs.Ytnfgojecgcienaa
