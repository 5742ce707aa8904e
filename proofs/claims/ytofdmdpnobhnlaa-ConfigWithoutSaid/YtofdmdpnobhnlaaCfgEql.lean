/- Whether members, and seats, are the same. -/
import Derived.Test.YtofdmdpnobhnlaaCfgMay
namespace Go.Proofs.Ytofdmdpnobhnlaa
open Go.RowKit Go.ChangeShapes Go.WideShapes Go.Joins
set_option linter.unusedVariables false

set_option maxRecDepth 100000 in
set_option maxHeartbeats 1000000 in
theorem mem_eql (a b c d : Int) (w : World) : (Go.binOp .eql 27 (.agg #[.int .i64 a, .int .i64 b]) (.agg #[.int .i64 c, .int .i64 d])).run Try.prog w = .ok (.bool (a == c && b == d)) w := by
  by_cases e1 : a = c
  · subst e1
    by_cases e2 : b = d
    · subst e2
      rw [show (a == a && b == b) = true by simp]
      go_simp
    · have h : (b == d) = false := by simpa using e2
      rw [show (a == a && b == d) = false by simp [h]]
      go_simp
  · have h : (a == c) = false := by simpa using e1
    rw [show (a == c && b == d) = false by simp [h]]
    go_simp
set_option maxRecDepth 100000 in
set_option maxHeartbeats 1000000 in
theorem mem_neq (a b c d : Int) (w : World) : (Go.binOp .neq 27 (.agg #[.int .i64 a, .int .i64 b]) (.agg #[.int .i64 c, .int .i64 d])).run Try.prog w = .ok (.bool (!(a == c && b == d))) w := by
  by_cases e1 : a = c
  · subst e1
    by_cases e2 : b = d
    · subst e2
      rw [show (a == a && b == b) = true by simp]
      go_simp
    · have h : (b == d) = false := by simpa using e2
      rw [show (a == a && b == d) = false by simp [h]]
      go_simp
  · have h : (a == c) = false := by simpa using e1
    rw [show (a == c && b == d) = false by simp [h]]
    go_simp
set_option maxRecDepth 100000 in
set_option maxHeartbeats 1000000 in
theorem seat_eql (a b c d : Int) (x y : Bool) (w : World) : (Go.binOp .eql 50 (.agg #[.int .i64 a, .int .i64 b, .bool x]) (.agg #[.int .i64 c, .int .i64 d, .bool y])).run Try.prog w = .ok (.bool (decide ((⟨a, b, x⟩ : SeatV) = ⟨c, d, y⟩))) w := by
  by_cases e1 : a = c
  · subst e1
    by_cases e2 : b = d
    · subst e2
      by_cases e3 : x = y
      · subst e3
        rw [decide_eq_true rfl]
        go_simp
      · rw [decide_eq_false (by simp [e3])]
        have h : (x == y) = false := by simpa using e3
        go_simp
    · have h : (b == d) = false := by simpa using e2
      rw [decide_eq_false (by simp [e2])]
      go_simp
  · have h : (a == c) = false := by simpa using e1
    rw [decide_eq_false (by simp [e1])]
    go_simp
set_option maxRecDepth 100000 in
set_option maxHeartbeats 1000000 in
theorem seat_neq (a b c d : Int) (x y : Bool) (w : World) : (Go.binOp .neq 50 (.agg #[.int .i64 a, .int .i64 b, .bool x]) (.agg #[.int .i64 c, .int .i64 d, .bool y])).run Try.prog w = .ok (.bool (!(decide ((⟨a, b, x⟩ : SeatV) = ⟨c, d, y⟩)))) w := by
  by_cases e1 : a = c
  · subst e1
    by_cases e2 : b = d
    · subst e2
      by_cases e3 : x = y
      · subst e3
        rw [decide_eq_true rfl]
        go_simp
      · rw [decide_eq_false (by simp [e3])]
        have h : (x == y) = false := by simpa using e3
        go_simp
    · have h : (b == d) = false := by simpa using e2
      rw [decide_eq_false (by simp [e2])]
      go_simp
  · have h : (a == c) = false := by simpa using e1
    rw [decide_eq_false (by simp [e1])]
    go_simp
end Go.Proofs.Ytofdmdpnobhnlaa
