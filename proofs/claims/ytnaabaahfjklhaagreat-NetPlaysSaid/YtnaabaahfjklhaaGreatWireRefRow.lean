/- The document's row: which fields a kind has, as letters. -/
import Derived.Test.YtnaabaahfjklhaaGreatKWireO
namespace Go.Proofs.YtnaabaahfjklhaaGreat
open Go.RowKit Go.ChangeShapes Go.WideShapes Go.Joins Go.Deep Fld
set_option linter.unusedVariables false

def charOf : Fld → UInt8
  | fF => 102
  | fE => 101
  | fG => 103
  | fS => 115
  | fC => 99
  | fU => 117
  | fL => 108
  | fO => 111
  | fQ => 113
  | fR => 114
  | fI => 105
  | fT => 116
  | fX => 120
def rowText (k : Int) : List UInt8 := (fieldsOf k).map charOf
set_option maxRecDepth 100000 in
theorem qrow1 (w : World) : Calls Tryz.prog 48 #[.int .i64 1] w fun en w' => en = .returned (.string ⟨(rowText 1).toArray⟩) ∧ Below w.heap.size w w' := by
  go_enter Tryz.func48, Tryz.ntmps48
  go_wp2_with fail
  go_ret
  exact ⟨rfl, (Below.refl w.heap.size w).alloc (Nat.le_refl _) _⟩
set_option maxRecDepth 100000 in
theorem qrow2 (w : World) : Calls Tryz.prog 48 #[.int .i64 2] w fun en w' => en = .returned (.string ⟨(rowText 2).toArray⟩) ∧ Below w.heap.size w w' := by
  go_enter Tryz.func48, Tryz.ntmps48
  go_wp2_with fail
  go_ret
  exact ⟨rfl, (Below.refl w.heap.size w).alloc (Nat.le_refl _) _⟩
set_option maxRecDepth 100000 in
theorem qrow3 (w : World) : Calls Tryz.prog 48 #[.int .i64 3] w fun en w' => en = .returned (.string ⟨(rowText 3).toArray⟩) ∧ Below w.heap.size w w' := by
  go_enter Tryz.func48, Tryz.ntmps48
  go_wp2_with fail
  go_ret
  exact ⟨rfl, (Below.refl w.heap.size w).alloc (Nat.le_refl _) _⟩
set_option maxRecDepth 100000 in
theorem qrow4 (w : World) : Calls Tryz.prog 48 #[.int .i64 4] w fun en w' => en = .returned (.string ⟨(rowText 4).toArray⟩) ∧ Below w.heap.size w w' := by
  go_enter Tryz.func48, Tryz.ntmps48
  go_wp2_with fail
  go_ret
  exact ⟨rfl, (Below.refl w.heap.size w).alloc (Nat.le_refl _) _⟩
set_option maxRecDepth 100000 in
theorem qrow5 (w : World) : Calls Tryz.prog 48 #[.int .i64 5] w fun en w' => en = .returned (.string ⟨(rowText 5).toArray⟩) ∧ Below w.heap.size w w' := by
  go_enter Tryz.func48, Tryz.ntmps48
  go_wp2_with fail
  go_ret
  exact ⟨rfl, (Below.refl w.heap.size w).alloc (Nat.le_refl _) _⟩
set_option maxRecDepth 100000 in
theorem qrow6 (w : World) : Calls Tryz.prog 48 #[.int .i64 6] w fun en w' => en = .returned (.string ⟨(rowText 6).toArray⟩) ∧ Below w.heap.size w w' := by
  go_enter Tryz.func48, Tryz.ntmps48
  go_wp2_with fail
  go_ret
  exact ⟨rfl, (Below.refl w.heap.size w).alloc (Nat.le_refl _) _⟩
set_option maxRecDepth 100000 in
theorem qrow7 (w : World) : Calls Tryz.prog 48 #[.int .i64 7] w fun en w' => en = .returned (.string ⟨(rowText 7).toArray⟩) ∧ Below w.heap.size w w' := by
  go_enter Tryz.func48, Tryz.ntmps48
  go_wp2_with fail
  go_ret
  exact ⟨rfl, (Below.refl w.heap.size w).alloc (Nat.le_refl _) _⟩
set_option maxRecDepth 100000 in
theorem qrow8 (w : World) : Calls Tryz.prog 48 #[.int .i64 8] w fun en w' => en = .returned (.string ⟨(rowText 8).toArray⟩) ∧ Below w.heap.size w w' := by
  go_enter Tryz.func48, Tryz.ntmps48
  go_wp2_with fail
  go_ret
  exact ⟨rfl, (Below.refl w.heap.size w).alloc (Nat.le_refl _) _⟩
set_option maxRecDepth 100000 in
theorem qrow9 (w : World) : Calls Tryz.prog 48 #[.int .i64 9] w fun en w' => en = .returned (.string ⟨(rowText 9).toArray⟩) ∧ Below w.heap.size w w' := by
  go_enter Tryz.func48, Tryz.ntmps48
  go_wp2_with fail
  go_ret
  exact ⟨rfl, (Below.refl w.heap.size w).alloc (Nat.le_refl _) _⟩
set_option maxRecDepth 100000 in
theorem qrow10 (w : World) : Calls Tryz.prog 48 #[.int .i64 10] w fun en w' => en = .returned (.string ⟨(rowText 10).toArray⟩) ∧ Below w.heap.size w w' := by
  go_enter Tryz.func48, Tryz.ntmps48
  go_wp2_with fail
  go_ret
  exact ⟨rfl, (Below.refl w.heap.size w).alloc (Nat.le_refl _) _⟩
set_option maxRecDepth 100000 in
theorem qrow11 (w : World) : Calls Tryz.prog 48 #[.int .i64 11] w fun en w' => en = .returned (.string ⟨(rowText 11).toArray⟩) ∧ Below w.heap.size w w' := by
  go_enter Tryz.func48, Tryz.ntmps48
  go_wp2_with fail
  go_ret
  exact ⟨rfl, (Below.refl w.heap.size w).alloc (Nat.le_refl _) _⟩
set_option maxRecDepth 100000 in
theorem qrow12 (w : World) : Calls Tryz.prog 48 #[.int .i64 12] w fun en w' => en = .returned (.string ⟨(rowText 12).toArray⟩) ∧ Below w.heap.size w w' := by
  go_enter Tryz.func48, Tryz.ntmps48
  go_wp2_with fail
  go_ret
  exact ⟨rfl, (Below.refl w.heap.size w).alloc (Nat.le_refl _) _⟩
set_option maxRecDepth 100000 in
theorem qrow13 (w : World) : Calls Tryz.prog 48 #[.int .i64 13] w fun en w' => en = .returned (.string ⟨(rowText 13).toArray⟩) ∧ Below w.heap.size w w' := by
  go_enter Tryz.func48, Tryz.ntmps48
  go_wp2_with fail
  go_ret
  exact ⟨rfl, (Below.refl w.heap.size w).alloc (Nat.le_refl _) _⟩
set_option maxRecDepth 100000 in
theorem qrow14 (w : World) : Calls Tryz.prog 48 #[.int .i64 14] w fun en w' => en = .returned (.string ⟨(rowText 14).toArray⟩) ∧ Below w.heap.size w w' := by
  go_enter Tryz.func48, Tryz.ntmps48
  go_wp2_with fail
  go_ret
  exact ⟨rfl, (Below.refl w.heap.size w).alloc (Nat.le_refl _) _⟩
set_option maxRecDepth 100000 in
theorem qrow15 (w : World) : Calls Tryz.prog 48 #[.int .i64 15] w fun en w' => en = .returned (.string ⟨(rowText 15).toArray⟩) ∧ Below w.heap.size w w' := by
  go_enter Tryz.func48, Tryz.ntmps48
  go_wp2_with fail
  go_ret
  exact ⟨rfl, (Below.refl w.heap.size w).alloc (Nat.le_refl _) _⟩
theorem qrow_any {k : Int} (h : 1 ≤ k ∧ k ≤ 15) (w : World) : Calls Tryz.prog 48 #[.int .i64 k] w fun en w' => en = .returned (.string ⟨(rowText k).toArray⟩) ∧ Below w.heap.size w w' := by
  rcases kinds h.1 h.2 with rfl | rfl | rfl | rfl | rfl | rfl | rfl | rfl | rfl | rfl | rfl | rfl | rfl | rfl | rfl
  · exact qrow1 w
  · exact qrow2 w
  · exact qrow3 w
  · exact qrow4 w
  · exact qrow5 w
  · exact qrow6 w
  · exact qrow7 w
  · exact qrow8 w
  · exact qrow9 w
  · exact qrow10 w
  · exact qrow11 w
  · exact qrow12 w
  · exact qrow13 w
  · exact qrow14 w
  · exact qrow15 w
end Go.Proofs.YtnaabaahfjklhaaGreat
