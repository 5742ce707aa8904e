/- The network, in plain Lean: what goes, what is under way, what each call makes of it. -/
import Derived.Test.YtnaabaahfjklhaaGreatWireLaws
namespace Go.Proofs.YtnaabaahfjklhaaGreat
open Go.RowKit
set_option linter.unusedVariables false

/-- A message's bytes. -/
def ptext (M : MsgV) : List UInt8 := frame (textOf M)
/-- One that may be sent. -/
structure Goes (M : MsgV) : Prop where
  ok : MOk M
  may : mayW M = true
  len : (ptext M).length ≤ 1024
theorem Goes.read {M : MsgV} (h : Goes M) : readM (ptext M) = (M, 0) := by
  have hl := h.len
  unfold ptext at hl ⊢
  rw [readM, if_neg (by omega), msg_print h.ok h.may]
  rfl
theorem Goes.print {M : MsgV} (h : Goes M) : printM M = (ptext M, 0) := by
  have hl := h.len
  unfold ptext at hl ⊢
  rw [printM, if_pos h.may, if_neg (by omega)]
theorem goes_of {M : MsgV} (hok : MOk M) {p : List UInt8} {x : Int} (h : printM M = (p, x)) : (x = 0 ∧ Goes M ∧ p = ptext M) ∨ x ≠ 0 := by
  unfold printM at h
  split at h
  · rename_i hm
    split at h
    · obtain ⟨rfl, rfl⟩ := Prod.mk.inj h
      exact .inr (by decide)
    · rename_i hl
      obtain ⟨rfl, rfl⟩ := Prod.mk.inj h
      exact .inl ⟨rfl, ⟨hok, hm, by unfold ptext; omega⟩, rfl⟩
  · obtain ⟨rfl, rfl⟩ := Prod.mk.inj h
    exact .inr (by decide)
/-- Where one is, of n. -/
def placeN (i : Int) (n : Nat) : Nat := (max i 0).toNat % n
def sendN (L : List MsgV) (M : MsgV) : List MsgV × Int := if (printM M).2 = 0 then (if 2000 ≤ L.length then (L, 5) else (L ++ [M], 0)) else (L, (printM M).2)
def peekN (L : List MsgV) (i : Int) : MsgV × Int := match L[placeN i L.length]? with | some M => (M, 0) | none => (msgZero, 10)
def takeN_ (L : List MsgV) (i : Int) : List MsgV := L.eraseIdx (placeN i L.length)
def dblN (L : List MsgV) (i : Int) : List MsgV × Int := match L[placeN i L.length]? with | some M => (if 2000 ≤ L.length then (L, 5) else (L ++ [M], 0)) | none => (L, 10)
theorem placeN_lt (i : Int) {n : Nat} (h : 0 < n) : placeN i n < n := Nat.mod_lt _ h
theorem peekN_nil (i : Int) : peekN [] i = (msgZero, 10) := rfl
theorem peekN_some {L : List MsgV} {i : Int} {M : MsgV} (h : L[placeN i L.length]? = some M) : peekN L i = (M, 0) := by unfold peekN; rw [h]
theorem dblN_nil (i : Int) : dblN [] i = ([], 10) := rfl
theorem dblN_some {L : List MsgV} {i : Int} {M : MsgV} (h : L[placeN i L.length]? = some M) : dblN L i = if 2000 ≤ L.length then (L, 5) else (L ++ [M], 0) := by unfold dblN; rw [h]
theorem place_some {L : List MsgV} (h : L ≠ []) (i : Int) : ∃ M, L[placeN i L.length]? = some M := ⟨_, List.getElem?_eq_getElem (placeN_lt i (List.length_pos_iff.2 h))⟩
theorem sendN_some {L : List MsgV} {M : MsgV} (h : Goes M) (hl : L.length < 2000) : sendN L M = (L ++ [M], 0) := by
  rw [sendN, h.print, if_pos rfl, if_neg (by omega)]
end Go.Proofs.YtnaabaahfjklhaaGreat
