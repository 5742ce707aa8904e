/- The contracts of may and of the generic functions over seats. Whether members, and seats, are the same. -/
import Derived.Test.YtnaabaahfjklhaaGreatKCfg
import Derived.Shelf.Abstract
import Derived.Lib.LazyBuf
namespace Go.Proofs.YtnaabaahfjklhaaGreat
open Go.RowKit Go.ChangeShapes Go.WideShapes Go.Joins
set_option linter.unusedVariables false


set_option maxRecDepth 100000 in
set_option maxHeartbeats 1000000 in
theorem cmay_any (n l : Int) (w : World) : Calls Tryz.prog 112 #[.agg #[.int .i64 n, .int .i64 l]] w fun e w' => e = .returned (.bool (mayM n l)) ∧ Below w.heap.size w w' := by
  have hbel := (Below.refl w.heap.size w).alloc (Nat.le_refl _) (.cells #[.int .i64 n, .int .i64 l] 29)
  go_enter Tryz.func112, Tryz.ntmps112
  by_cases h1 : 0 ≤ n
  · by_cases h2 : n ≤ 7
    · by_cases h3 : 1 ≤ l
      · by_cases h4 : l ≤ 1099511627776
        · have HM := Lib.hid (show mayM n l = true by simp [mayM, h1, h2, h3, h4])
          go_wp2_with fail
          go_ret
          exact ⟨by rw [HM.out]; rfl, hbel⟩
        · have HM := Lib.hid (show mayM n l = false by simp [mayM, h4])
          go_wp2_with fail
          go_ret
          exact ⟨by rw [HM.out]; rfl, hbel⟩
      · have HM := Lib.hid (show mayM n l = false by simp [mayM, h3])
        go_wp2_with fail
        go_ret
        exact ⟨by rw [HM.out]; rfl, hbel⟩
    · have HM := Lib.hid (show mayM n l = false by simp [mayM, h2])
      go_wp2_with fail
      go_ret
      exact ⟨by rw [HM.out]; rfl, hbel⟩
  · have HM := Lib.hid (show mayM n l = false by simp [mayM, h1])
    go_wp2_with fail
    go_ret
    exact ⟨by rw [HM.out]; rfl, hbel⟩

set_option maxRecDepth 100000 in
set_option maxHeartbeats 1000000 in
theorem qcmay_any (n l : Int) (w : World) : Calls Tryz.prog 67 #[.agg #[.int .i64 n, .int .i64 l]] w fun e w' => e = .returned (.bool (mayM n l)) ∧ Below w.heap.size w w' := by
  have hbel := (Below.refl w.heap.size w).alloc (Nat.le_refl _) (.cells #[.int .i64 n, .int .i64 l] 29)
  go_enter Tryz.func67, Tryz.ntmps67
  by_cases h1 : 0 ≤ n
  · by_cases h2 : n ≤ 7
    · by_cases h3 : 1 ≤ l
      · by_cases h4 : l ≤ 1099511627776
        · have HM := Lib.hid (show mayM n l = true by simp [mayM, h1, h2, h3, h4])
          go_wp2_with fail
          go_ret
          exact ⟨by rw [HM.out]; rfl, hbel⟩
        · have HM := Lib.hid (show mayM n l = false by simp [mayM, h4])
          go_wp2_with fail
          go_ret
          exact ⟨by rw [HM.out]; rfl, hbel⟩
      · have HM := Lib.hid (show mayM n l = false by simp [mayM, h3])
        go_wp2_with fail
        go_ret
        exact ⟨by rw [HM.out]; rfl, hbel⟩
    · have HM := Lib.hid (show mayM n l = false by simp [mayM, h2])
      go_wp2_with fail
      go_ret
      exact ⟨by rw [HM.out]; rfl, hbel⟩
  · have HM := Lib.hid (show mayM n l = false by simp [mayM, h1])
    go_wp2_with fail
    go_ret
    exact ⟨by rw [HM.out]; rfl, hbel⟩

/-- What is asked of a predicate. -/
def PredB (g : Nat) (lb : Array Value) (p : SeatV → Bool) (w : World) : Prop :=
  ∀ (W : World) (n l : Int) (b : Bool), W64 n → W64 l → Below w.heap.size w W → Calls Tryz.prog g (#[.agg #[.int .i64 n, .int .i64 l, .bool b]] ++ lb) W fun e w' => e = .returned (.bool (p ⟨n, l, b⟩)) ∧ Below w.heap.size w w'

end Go.Proofs.YtnaabaahfjklhaaGreat
namespace Go.Proofs.YtnaabaahfjklhaaGreat
open Go.RowKit Go.ChangeShapes Go.WideShapes Go.Joins
set_option linter.unusedVariables false

set_option maxRecDepth 100000 in
set_option maxHeartbeats 1000000 in
theorem mem_eql (a b c d : Int) (w : World) : (Go.binOp .eql 29 (.agg #[.int .i64 a, .int .i64 b]) (.agg #[.int .i64 c, .int .i64 d])).run Tryz.prog w = .ok (.bool (a == c && b == d)) w := by
  by_cases e1 : a = c
  · subst e1
    by_cases e2 : b = d
    · subst e2
      rw [show (a == a && b == b) = true by simp]
      go_simp
    · have h : (b == d) = false := by simpa using e2
      rw [show (a == a && b == d) = false by simp [h]]
      go_simp
  · have h : (a == c) = false := by simpa using e1
    rw [show (a == c && b == d) = false by simp [h]]
    go_simp
set_option maxRecDepth 100000 in
set_option maxHeartbeats 1000000 in
theorem mem_neq (a b c d : Int) (w : World) : (Go.binOp .neq 29 (.agg #[.int .i64 a, .int .i64 b]) (.agg #[.int .i64 c, .int .i64 d])).run Tryz.prog w = .ok (.bool (!(a == c && b == d))) w := by
  by_cases e1 : a = c
  · subst e1
    by_cases e2 : b = d
    · subst e2
      rw [show (a == a && b == b) = true by simp]
      go_simp
    · have h : (b == d) = false := by simpa using e2
      rw [show (a == a && b == d) = false by simp [h]]
      go_simp
  · have h : (a == c) = false := by simpa using e1
    rw [show (a == c && b == d) = false by simp [h]]
    go_simp
set_option maxRecDepth 100000 in
set_option maxHeartbeats 1000000 in
theorem seat_eql (a b c d : Int) (x y : Bool) (w : World) : (Go.binOp .eql 97 (.agg #[.int .i64 a, .int .i64 b, .bool x]) (.agg #[.int .i64 c, .int .i64 d, .bool y])).run Tryz.prog w = .ok (.bool (decide ((⟨a, b, x⟩ : SeatV) = ⟨c, d, y⟩))) w := by
  by_cases e1 : a = c
  · subst e1
    by_cases e2 : b = d
    · subst e2
      by_cases e3 : x = y
      · subst e3
        rw [decide_eq_true rfl]
        go_simp
      · rw [decide_eq_false (by simp [e3])]
        have h : (x == y) = false := by simpa using e3
        go_simp
    · have h : (b == d) = false := by simpa using e2
      rw [decide_eq_false (by simp [e2])]
      go_simp
  · have h : (a == c) = false := by simpa using e1
    rw [decide_eq_false (by simp [e1])]
    go_simp
set_option maxRecDepth 100000 in
set_option maxHeartbeats 1000000 in
theorem seat_neq (a b c d : Int) (x y : Bool) (w : World) : (Go.binOp .neq 97 (.agg #[.int .i64 a, .int .i64 b, .bool x]) (.agg #[.int .i64 c, .int .i64 d, .bool y])).run Tryz.prog w = .ok (.bool (!(decide ((⟨a, b, x⟩ : SeatV) = ⟨c, d, y⟩)))) w := by
  by_cases e1 : a = c
  · subst e1
    by_cases e2 : b = d
    · subst e2
      by_cases e3 : x = y
      · subst e3
        rw [decide_eq_true rfl]
        go_simp
      · rw [decide_eq_false (by simp [e3])]
        have h : (x == y) = false := by simpa using e3
        go_simp
    · have h : (b == d) = false := by simpa using e2
      rw [decide_eq_false (by simp [e2])]
      go_simp
  · have h : (a == c) = false := by simpa using e1
    rw [decide_eq_false (by simp [e1])]
    go_simp
end Go.Proofs.YtnaabaahfjklhaaGreat
