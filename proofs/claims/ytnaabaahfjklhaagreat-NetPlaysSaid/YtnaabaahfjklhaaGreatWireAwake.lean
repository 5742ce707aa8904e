/- The wire laws' first line: awake answers true, and turns nothing that was there. -/
import Derived.Test.YtnaabaahfjklhaaGreatWirePrintD
namespace Go.Proofs.YtnaabaahfjklhaaGreat
open Go.RowKit Go.ChangeShapes Go.WideShapes Go.Joins Go.Deep Fld
set_option linter.unusedVariables false

def msgWhere : MsgV := { msgZero with kind := 15, dst := 200, fn := 100 }
def msgBad : MsgV := { msgZero with kind := 15, seq := 1 }
theorem w64s {x : Int} (h : x = 0 ∨ x = 1 ∨ x = 15 ∨ x = 100 ∨ x = 200) : W64 x := W64.mk (by omega) (by omega)
theorem msgWhere_ok : MOk msgWhere := MOk.mk' (w64s (by decide)) (w64s (by decide)) (w64s (by decide)) (w64s (by decide)) (w64s (by decide)) (w64s (by decide)) (w64s (by decide)) (w64s (by decide)) (w64s (by decide)) (w64s (by decide)) (w64s (by decide)) (w64s (by decide)) (w64s (by decide)) (w64s (by decide)) (w64s (by decide)) opZero_ok (by intro f hf; cases hf)
theorem msgBad_ok : MOk msgBad := MOk.mk' (w64s (by decide)) (w64s (by decide)) (w64s (by decide)) (w64s (by decide)) (w64s (by decide)) (w64s (by decide)) (w64s (by decide)) (w64s (by decide)) (w64s (by decide)) (w64s (by decide)) (w64s (by decide)) (w64s (by decide)) (w64s (by decide)) (w64s (by decide)) (w64s (by decide)) opZero_ok (by intro f hf; cases hf)
theorem msgWhere_may : mayW msgWhere = true := by decide
theorem msgBad_may : mayW msgBad = false := by decide
def whereText : List UInt8 := [15, 144, 3, 200, 1, 0]
theorem msgWhere_text : textOf msgWhere = whereText := by decide
theorem msgWhere_print : printM msgWhere = (frame whereText, 0) := by
  rw [printM, if_pos msgWhere_may, msgWhere_text, if_neg (by rw [frame_len]; decide)]
theorem msgBad_print : printM msgBad = ([], 1) := by rw [printM, if_neg (by rw [msgBad_may]; simp)]
theorem msgWhere_read : readM (frame whereText) = (msgWhere, 0) := by
  rw [← msgWhere_text, readM, if_neg (by rw [frame_len, msgWhere_text]; decide), msg_print msgWhere_ok msgWhere_may]
  rfl
theorem empty_read : readM [] = (msgZero, 3) := by
  have h : rawM [] = (msgZero, false) := by rw [rawM, if_neg (by decide)]
  rw [readM, if_neg (by decide), h]
  rfl

/-- A message's value, its cells by one name. -/
theorem From.parts {M : MsgV} {n : Nat} {w : World} {v : Value} (h : M.From n w v) (ho : M.op.v.length = 8) : ∃ ds : List Value, v = .agg ds.toArray ∧ ds.length = 28 ∧ ds.toArray.all (·.oneCell') = true ∧ M.From n w (.agg ds.toArray) := by
  obtain ⟨v1, v2, rfl, hc, hf⟩ := h
  refine ⟨msgCells M v1 v2, rfl, msgCells_len ho _ _, ?_, ⟨v1, v2, rfl, hc, hf⟩⟩
  rw [Array.all_eq_true_iff_forall_mem]
  intro u hu
  exact msgCells_one (chain_one hc.1) (fires_one hf.1) u (by simpa using hu)
theorem At.parts {M : MsgV} {w : World} {v : Value} (h : M.At w v) (ho : M.op.v.length = 8) : ∃ ds : List Value, v = .agg ds.toArray ∧ ds.length = 28 ∧ ds.toArray.all (·.oneCell') = true ∧ M.At w (.agg ds.toArray) := by
  obtain ⟨v1, v2, rfl, hc, hf⟩ := h
  refine ⟨msgCells M v1 v2, rfl, msgCells_len ho _ _, ?_, ⟨v1, v2, rfl, hc, hf⟩⟩
  rw [Array.all_eq_true_iff_forall_mem]
  intro u hu
  exact msgCells_one (chain_one hc) (fires_one hf) u (by simpa using hu)
theorem At.lit (M : MsgV) (h1 : M.cf.chain = []) (h2 : M.fires = []) (w : World) : M.At w (.agg (msgCells M (.slice none 0 0) (.slice none 0 0)).toArray) := ⟨_, _, rfl, by rw [h1]; exact ChainAt.nil _, by rw [h2]; exact FiresAt.nil _⟩

end Go.Proofs.YtnaabaahfjklhaaGreat
