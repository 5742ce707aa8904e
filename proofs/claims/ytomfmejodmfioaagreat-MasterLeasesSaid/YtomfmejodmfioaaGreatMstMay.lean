/- May a setup be? By the code, and by the document. -/
import Derived.Test.YtomfmejodmfioaaGreatKMstP
import Derived.Test.YtomfmejodmfioaaGreatKOp1
namespace Go.Proofs.YtomfmejodmfioaaGreat
open Go.RowKit Go.ChangeShapes Go.WideShapes Go.Joins
set_option linter.unusedVariables false

def setC7 (s : SetV) : List Value := [.int .i64 s.nodes, .int .i64 s.clients, .int .i64 s.timers, .int .i64 s.lease, .int .i64 s.suspect, .int .i64 s.skew, .int .i64 s.base]
theorem may_no {s : SetV} (h : ¬ (1 ≤ s.nodes ∧ s.nodes ≤ 8 ∧ 0 ≤ s.clients ∧ s.clients ≤ 4 ∧ 1 ≤ s.timers ∧ s.timers ≤ 16 ∧ 1 ≤ s.lease ∧ s.lease ≤ 1000 ∧ 1 ≤ s.suspect ∧ s.suspect ≤ 1000 ∧ 0 ≤ s.skew ∧ s.skew ≤ 100 ∧ 0 ≤ s.base ∧ s.base ≤ 1099511627776)) : mayS s = false := decide_eq_false h
theorem may_yes {s : SetV} (h : 1 ≤ s.nodes ∧ s.nodes ≤ 8 ∧ 0 ≤ s.clients ∧ s.clients ≤ 4 ∧ 1 ≤ s.timers ∧ s.timers ≤ 16 ∧ 1 ≤ s.lease ∧ s.lease ≤ 1000 ∧ 1 ≤ s.suspect ∧ s.suspect ≤ 1000 ∧ 0 ≤ s.skew ∧ s.skew ≤ 100 ∧ 0 ≤ s.base ∧ s.base ≤ 1099511627776) : mayS s = true := decide_eq_true h
/-- The first of six tests that fails, or none. -/
theorem six_ways (p1 p2 p3 p4 p5 p6 : Prop) : ¬ p1 ∨ (p1 ∧ ¬ p2) ∨ (p1 ∧ p2 ∧ ¬ p3) ∨ (p1 ∧ p2 ∧ p3 ∧ ¬ p4) ∨ (p1 ∧ p2 ∧ p3 ∧ p4 ∧ ¬ p5) ∨ (p1 ∧ p2 ∧ p3 ∧ p4 ∧ p5 ∧ ¬ p6) ∨ (p1 ∧ p2 ∧ p3 ∧ p4 ∧ p5 ∧ p6) := by
  by_cases h1 : p1
  · by_cases h2 : p2
    · by_cases h3 : p3
      · by_cases h4 : p4
        · by_cases h5 : p5
          · by_cases h6 : p6 <;> simp [h1, h2, h3, h4, h5, h6]
          · simp [h1, h2, h3, h4, h5]
        · simp [h1, h2, h3, h4]
      · simp [h1, h2, h3]
    · simp [h1, h2]
  · simp [h1]
set_option maxRecDepth 100000 in
set_option maxHeartbeats 16000000 in

theorem mmay_any {w : World} {sb : Nat} {T : TypeId} {s : SetV} (h : BlkAt w sb T (setC7 s)) :
    Calls Tryz.prog 49 #[.pointer (some ⟨sb, 0, none⟩)] w fun e w' => e = .returned (.bool (mayS s)) ∧ w = w' := by
  have c0 : w.cell? ⟨sb, 0, none⟩ = some (.int .i64 s.nodes) := h.cell rfl
  have c1 : w.cell? ⟨sb, 1, none⟩ = some (.int .i64 s.clients) := h.cell rfl
  have c2 : w.cell? ⟨sb, 2, none⟩ = some (.int .i64 s.timers) := h.cell rfl
  have c3 : w.cell? ⟨sb, 3, none⟩ = some (.int .i64 s.lease) := h.cell rfl
  have c4 : w.cell? ⟨sb, 4, none⟩ = some (.int .i64 s.suspect) := h.cell rfl
  have c5 : w.cell? ⟨sb, 5, none⟩ = some (.int .i64 s.skew) := h.cell rfl
  have c6 : w.cell? ⟨sb, 6, none⟩ = some (.int .i64 s.base) := h.cell rfl
  clear h
  rcases six_ways (1 ≤ s.nodes) (s.nodes ≤ 8) (0 ≤ s.clients) (s.clients ≤ 4) (1 ≤ s.timers) (s.timers ≤ 16) with h | ⟨h1, h⟩ | ⟨h1, h2, h⟩ | ⟨h1, h2, h3, h⟩ | ⟨h1, h2, h3, h4, h⟩ | ⟨h1, h2, h3, h4, h5, h⟩ | ⟨h1, h2, h3, h4, h5, h6⟩
  all_goals rcases six_ways (1 ≤ s.lease) (s.lease ≤ 1000) (1 ≤ s.suspect) (s.suspect ≤ 1000) (0 ≤ s.skew) (s.skew ≤ 100) with g | ⟨g1, g⟩ | ⟨g1, g2, g⟩ | ⟨g1, g2, g3, g⟩ | ⟨g1, g2, g3, g4, g⟩ | ⟨g1, g2, g3, g4, g5, g⟩ | ⟨g1, g2, g3, g4, g5, g6⟩
  case inr.inr.inr.inr.inr.inr.inr.inr.inr.inr.inr.inr =>
    by_cases b1 : 0 ≤ s.base
    · by_cases b2 : s.base ≤ 1099511627776
      all_goals
        skip
        go_enter Tryz.func49, Tryz.ntmps49
        go_wp2_with fail
        go_ret
        first
        | exact ⟨by rw [may_no (by omega)]; rfl, rfl⟩
        | exact ⟨by rw [may_yes (by omega)]; rfl, rfl⟩
    · skip
      go_enter Tryz.func49, Tryz.ntmps49
      go_wp2_with fail
      go_ret
      first
      | exact ⟨by rw [may_no (by omega)]; rfl, rfl⟩
      | exact ⟨by rw [may_yes (by omega)]; rfl, rfl⟩
  all_goals
    skip
    go_enter Tryz.func49, Tryz.ntmps49
    go_wp2_with fail
    go_ret
    first
    | exact ⟨by rw [may_no (by omega)]; rfl, rfl⟩
    | exact ⟨by rw [may_yes (by omega)]; rfl, rfl⟩
end Go.Proofs.YtomfmejodmfioaaGreat
