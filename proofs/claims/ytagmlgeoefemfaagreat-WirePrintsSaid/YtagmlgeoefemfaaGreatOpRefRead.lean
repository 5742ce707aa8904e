/- The contract of the document's Read. -/
import Derived.Test.YtagmlgeoefemfaaGreatOpRefTake
import Derived.Test.YtagmlgeoefemfaaGreatKOp2
namespace Go.Proofs.YtagmlgeoefemfaaGreat
open Go.RowKit Go.ChangeShapes Go.WideShapes Go.Joins
set_option linter.unusedVariables false

theorem qTake_ok (l : List UInt8) (e : Int) (hl : l.length ≤ 1000000) : OpOk (qTake l e).1 ∧ (qTake l e).2.2.1.length ≤ l.length := by
  have h := rawOp_ok l e hl
  unfold qTake
  simp only
  split
  · exact h
  · exact ⟨opZero_ok, h.2⟩
theorem take_q (l : List UInt8) (e : Int) : (takeOp l e).1 = (qTake l e).1 ∧ ((takeOp l e).2.2 = 0 ↔ (qTake l e).2.1 = true) ∧ (takeOp l e).2.1 = (qTake l e).2.2.1 := by
  unfold takeOp qTake
  generalize rawOp l e = R
  obtain ⟨r, l1, e1⟩ := R
  simp only
  by_cases hm : mayOp r = true
  · rw [if_pos hm]
    by_cases h0 : e1 = 0
    · rw [if_pos h0, if_pos ⟨h0, hm⟩]
      simp [h0]
    · rw [if_neg h0, if_neg (fun h => h0 h.1)]
      simp [h0]
  · rw [if_neg hm]
    have hf : fst_ e1 3 ≠ 0 := by unfold fst_; split <;> omega
    rw [if_neg hf, if_neg (fun h => hm h.2)]
    simp [hf]
theorem read_q (l : List UInt8) : readOp l = if (qTake l 0).2.1 = true ∧ (qTake l 0).2.2.1 = [] then ((qTake l 0).1, true) else (opZero, false) := by
  obtain ⟨h1, h2, h3⟩ := take_q l 0
  unfold readOp
  simp only [h1, h2, h3]

end Go.Proofs.YtagmlgeoefemfaaGreat
