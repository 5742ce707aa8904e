/- What is read of bytes may be held. -/
import Derived.Test.YtnaabaahfjklhaaGreatKWireO
namespace Go.Proofs.YtnaabaahfjklhaaGreat
open Go.RowKit Fld
set_option linter.unusedVariables false

theorem w64_zero : W64 0 := W64.mk (by decide) (by decide)
theorem takeC_epoch (l : List UInt8) (e : Int) : W64 (takeC l e).1.epoch := by
  obtain ⟨n1, l1, e1, h1⟩ : ∃ n1 l1 e1, cntC l e = (n1, l1, e1) := ⟨_, _, _, rfl⟩
  obtain ⟨n2, l2, e2, h2⟩ : ∃ n2 l2 e2, cntC l1 e1 = (n2, l2, e2) := ⟨_, _, _, rfl⟩
  obtain ⟨L, l3, e3, h3⟩ : ∃ L l3 e3, takeN n2 l2 e2 = (L, l3, e3) := ⟨_, _, _, rfl⟩
  have hn := cntC_le l e
  rw [h1] at hn
  simp only at hn
  rw [takeC_of h1 h2 h3]
  split
  · exact w64_zero
  · split
    · split
      · exact W64.mk (by show (-9223372036854775808 : Int) ≤ (n1 : Int); omega) (by show (n1 : Int) ≤ 9223372036854775807; omega)
      · exact w64_zero
    · split
      · exact W64.mk (by show (-9223372036854775808 : Int) ≤ (n1 : Int); omega) (by show (n1 : Int) ≤ 9223372036854775807; omega)
      · exact w64_zero
theorem rdFld_ok (F : Fld) {A : MsgV} (h : MOk A) (l : List UInt8) (e : Int) (hl : l.length ≤ 1000000) : MOk (rdFld F A l e).1 := by
  have hn := h.nums
  simp only [List.mem_cons, List.not_mem_nil, or_false, forall_eq_or_imp, forall_eq] at hn
  obtain ⟨h0, h1, h2, h3, h4, h5, h6, h7, h8, h9, h10, h11, h12, h13, h14⟩ := hn
  have ho := h.op
  have hf := h.fires
  have ho2 := (takeOp_ok l e hl).1
  cases F with
  | fF => exact MOk.mk' (M := (rdFld fF A l e).1) h0 h1 (rdIs_get 2 l e 0) (rdIs_get 2 l e 1) h4 h5 h6 h7 h8 h9 h10 h11 h12 h13 h14 ho hf
  | fE => exact MOk.mk' (M := (rdFld fE A l e).1) h0 h1 h2 h3 (rdIs_get 1 l e 0) h5 h6 h7 h8 h9 h10 h11 h12 h13 h14 ho hf
  | fG => exact MOk.mk' (M := (rdFld fG A l e).1) h0 h1 h2 h3 h4 h5 h6 h7 h8 h9 h10 h11 h12 h13 h14 ho hf
  | fS => exact MOk.mk' (M := (rdFld fS A l e).1) h0 h1 h2 h3 h4 (rdIs_get 1 l e 0) h6 h7 h8 h9 h10 h11 h12 h13 h14 ho hf
  | fC => exact MOk.mk' (M := (rdFld fC A l e).1) h0 h1 h2 h3 h4 h5 h6 h7 h8 h9 h10 h11 h12 h13 (takeC_epoch l e) ho hf
  | fU => exact MOk.mk' (M := (rdFld fU A l e).1) h0 h1 h2 h3 h4 h5 h6 h7 h8 (rdIs_get 1 l e 0) h10 h11 h12 h13 h14 ho hf
  | fL => exact MOk.mk' (M := (rdFld fL A l e).1) h0 h1 h2 h3 h4 h5 h6 h7 h8 h9 h10 h11 h12 (rdIs_get 1 l e 0) h14 ho hf
  | fO => exact MOk.mk' (M := (rdFld fO A l e).1) h0 h1 h2 h3 h4 h5 h6 h7 h8 h9 h10 h11 h12 h13 h14 ho2 hf
  | fQ => exact MOk.mk' (M := (rdFld fQ A l e).1) h0 h1 h2 h3 h4 h5 (rdIs_get 1 l e 0) h7 h8 h9 h10 h11 h12 h13 h14 ho hf
  | fR => exact MOk.mk' (M := (rdFld fR A l e).1) h0 h1 h2 h3 h4 h5 h6 h7 h8 h9 (rdIs_get 3 l e 0) (rdIs_get 3 l e 1) (rdIs_get 3 l e 2) h13 h14 ho hf
  | fI => exact MOk.mk' (M := (rdFld fI A l e).1) h0 h1 h2 h3 h4 h5 h6 h7 (rdIs_get 1 l e 0) h9 h10 h11 h12 h13 h14 ho hf
  | fT => exact MOk.mk' (M := (rdFld fT A l e).1) h0 h1 h2 h3 h4 h5 h6 (rdIs_get 1 l e 0) h8 h9 h10 h11 h12 h13 h14 ho hf
  | fX =>
    simp only [rdFld]
    split
    · exact h
    · exact MOk.mk' h0 h1 h2 h3 h4 h5 h6 h7 h8 h9 h10 h11 h12 h13 h14 ho (rdFires_fit _ _ _)
theorem rdFlds_ok (R : List Fld) {A : MsgV} (h : MOk A) (l : List UInt8) (e : Int) (hl : l.length ≤ 1000000) : MOk (rdFlds R A l e).1 := by
  induction R generalizing A l e with
  | nil => exact h
  | cons F R ih => exact ih (rdFld_ok F h l e hl) _ _ (Nat.le_trans (rdFld_len F A l e hl) hl)
theorem msgZero_ok : MOk msgZero := MOk.mk' w64_zero w64_zero w64_zero w64_zero w64_zero w64_zero w64_zero w64_zero w64_zero w64_zero w64_zero w64_zero w64_zero w64_zero w64_zero opZero_ok (by intro f hf; cases hf)
theorem rawM_ok {s : List UInt8} (hs : s.length ≤ 1000000) : MOk (rawM s).1 := by
  have htl : (wholeOf s).length ≤ 1000000 := by rw [wholeOf]; split <;> simp <;> omega
  unfold rawM
  split
  · unfold rdText
    refine rdFlds_ok _ ?_ _ _ (Nat.le_trans (Nat.le_trans (rdIs_short _ _ _) (rdB_len _ _)) htl)
    have hb := rdB_fit (wholeOf s) 0
    exact MOk.mk' (M := (rdHead (wholeOf s)).1) (W64.mk (by show (-9223372036854775808 : Int) ≤ ((rdB (wholeOf s) 0).1 : Int); omega) (by show ((rdB (wholeOf s) 0).1 : Int) ≤ 9223372036854775807; omega)) (rdIs_get 1 (rdB (wholeOf s) 0).2.1 (rdB (wholeOf s) 0).2.2 0) w64_zero w64_zero w64_zero w64_zero w64_zero w64_zero w64_zero w64_zero w64_zero w64_zero w64_zero w64_zero w64_zero opZero_ok (by intro f hf; cases hf)
  · exact msgZero_ok
theorem readM_ok {s : List UInt8} {R : MsgV} {x : Int} (h : readM s = (R, x)) : MOk R := by
  unfold readM at h
  split at h
  · simp only [Prod.mk.injEq] at h; obtain ⟨rfl, _⟩ := h; exact msgZero_ok
  · rename_i hs
    split at h
    · simp only [Prod.mk.injEq] at h; obtain ⟨rfl, _⟩ := h; exact rawM_ok (by omega)
    · simp only [Prod.mk.injEq] at h; obtain ⟨rfl, _⟩ := h; exact msgZero_ok
/-- What is read is a message that may be, or nothing. -/
theorem readM_what {s : List UInt8} {R : MsgV} {x : Int} (h : readM s = (R, x)) : (x = 0 ∧ mayW R = true ∧ s = frame (textOf R) ∧ s.length ≤ 1024) ∨ (x ≠ 0 ∧ R = msgZero) := by
  unfold readM at h
  split at h
  · simp only [Prod.mk.injEq] at h; obtain ⟨rfl, rfl⟩ := h; exact .inr ⟨by decide, rfl⟩
  · rename_i hs
    split at h
    · rename_i h2
      simp only [Prod.mk.injEq] at h; obtain ⟨rfl, rfl⟩ := h
      have := msg_back (Prod.ext rfl h2 : rawM s = ((rawM s).1, true))
      exact .inl ⟨rfl, this.1, this.2, by omega⟩
    · simp only [Prod.mk.injEq] at h; obtain ⟨rfl, rfl⟩ := h; exact .inr ⟨by decide, rfl⟩
end Go.Proofs.YtnaabaahfjklhaaGreat
