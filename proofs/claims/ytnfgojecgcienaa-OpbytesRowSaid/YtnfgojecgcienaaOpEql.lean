/- Whether two operations are the same. -/
import Derived.Test.YtnfgojecgcienaaOpRead
namespace Go.Proofs.Ytnfgojecgcienaa
open Go.RowKit Go.ChangeShapes Go.WideShapes Go.Joins
set_option linter.unusedVariables false

set_option maxRecDepth 100000 in
set_option maxHeartbeats 1000000 in
theorem op_eql (k a1 a2 a3 a4 a5 a6 a7 a8 q b1 b2 b3 b4 b5 b6 b7 b8 : Int) (s t : List UInt8) (w : World) :
    (Go.binOp .eql 23 (.agg #[.int .i64 k, .int .i64 a1, .int .i64 a2, .int .i64 a3, .int .i64 a4, .int .i64 a5, .int .i64 a6, .int .i64 a7, .int .i64 a8, .string ⟨s.toArray⟩]) (.agg #[.int .i64 q, .int .i64 b1, .int .i64 b2, .int .i64 b3, .int .i64 b4, .int .i64 b5, .int .i64 b6, .int .i64 b7, .int .i64 b8, .string ⟨t.toArray⟩])).run Try.prog w =
      .ok (.bool (decide ((⟨k, [a1, a2, a3, a4, a5, a6, a7, a8], s⟩ : OpV) = ⟨q, [b1, b2, b3, b4, b5, b6, b7, b8], t⟩))) w := by
  by_cases e0 : k = q
  · subst e0
    by_cases e1 : a1 = b1
    · subst e1
      by_cases e2 : a2 = b2
      · subst e2
        by_cases e3 : a3 = b3
        · subst e3
          by_cases e4 : a4 = b4
          · subst e4
            by_cases e5 : a5 = b5
            · subst e5
              by_cases e6 : a6 = b6
              · subst e6
                by_cases e7 : a7 = b7
                · subst e7
                  by_cases e8 : a8 = b8
                  · subst e8
                    by_cases e9 : s = t
                    · subst e9
                      rw [decide_eq_true rfl]
                      go_simp
                    · rw [decide_eq_false (by simp [e9])]
                      have h : (s == t) = false := by simpa using e9
                      go_simp
                  · rw [decide_eq_false (by simp [e8])]
                    have h : (a8 == b8) = false := by simpa using e8
                    go_simp
                · rw [decide_eq_false (by simp [e7])]
                  have h : (a7 == b7) = false := by simpa using e7
                  go_simp
              · rw [decide_eq_false (by simp [e6])]
                have h : (a6 == b6) = false := by simpa using e6
                go_simp
            · rw [decide_eq_false (by simp [e5])]
              have h : (a5 == b5) = false := by simpa using e5
              go_simp
          · rw [decide_eq_false (by simp [e4])]
            have h : (a4 == b4) = false := by simpa using e4
            go_simp
        · rw [decide_eq_false (by simp [e3])]
          have h : (a3 == b3) = false := by simpa using e3
          go_simp
      · rw [decide_eq_false (by simp [e2])]
        have h : (a2 == b2) = false := by simpa using e2
        go_simp
    · rw [decide_eq_false (by simp [e1])]
      have h : (a1 == b1) = false := by simpa using e1
      go_simp
  · rw [decide_eq_false (by simp [e0])]
    have h : (k == q) = false := by simpa using e0
    go_simp
end Go.Proofs.Ytnfgojecgcienaa
