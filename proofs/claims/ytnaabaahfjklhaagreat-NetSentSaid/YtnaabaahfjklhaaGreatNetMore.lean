/- More of what each call makes of a network, in plain Lean. -/
import Derived.Test.YtnaabaahfjklhaaGreatNetPlain
namespace Go.Proofs.YtnaabaahfjklhaaGreat
open Go.RowKit
set_option linter.unusedVariables false

theorem sendN_full {L : List MsgV} {M : MsgV} (h : Goes M) (hl : 2000 ≤ L.length) : sendN L M = (L, 5) := by
  rw [sendN, h.print, if_pos rfl, if_pos hl]
theorem dblN_full {L : List MsgV} (hl : 2000 ≤ L.length) (i : Int) : dblN L i = (L, 5) := by
  obtain ⟨M, hM⟩ := place_some (L := L) (by rintro rfl; simp at hl) i
  rw [dblN_some hM, if_pos hl]
theorem dblN_room {L : List MsgV} (hn : L ≠ []) (hl : L.length < 2000) (i : Int) : ∃ M, L[placeN i L.length]? = some M ∧ dblN L i = (L ++ [M], 0) := by
  obtain ⟨M, hM⟩ := place_some hn i
  exact ⟨M, hM, by rw [dblN_some hM, if_neg (by omega)]⟩
theorem ntakeN_len {L : List MsgV} (hn : L ≠ []) (i : Int) : (takeN_ L i).length = L.length - 1 := by
  unfold takeN_
  rw [List.length_eraseIdx, if_pos (placeN_lt i (List.length_pos_iff.2 hn))]
end Go.Proofs.YtnaabaahfjklhaaGreat
