/- What the readers hand on: how long, how large, and that what was read stands there. -/
import Derived.Test.YtoiaigbagfalmaaCodecReader
import Derived.Test.YtoiaigbagfalmaaCodecLaws
namespace Go.Proofs.Ytoiaigbagfalmaa
set_option linter.unusedVariables false

theorem rdU_len (l : List UInt8) (e : Int) : (rdU l e).2.1.length ≤ l.length := by
  rw [rdU]
  split
  · simp
  · exact Nat.le_refl _
theorem rdU_fit (l : List UInt8) (e : Int) : F64 (rdU l e).1 := by
  rw [rdU]
  split
  · exact (num_facts _).2.1
  · show (0 : Nat) < _
    decide
theorem zag_fit {n : Nat} (h : F64 n) : W64 (zag n) := by
  unfold F64 at h
  unfold zag
  split
  · exact W64.mk (by omega) (by omega)
  · exact W64.mk (by omega) (by omega)
theorem rdB_len (l : List UInt8) (e : Int) : (rdB l e).2.1.length ≤ l.length := by
  rw [rdB.eq_def]
  split
  · cases l <;> simp
  · exact Nat.le_refl _
theorem rdB_fit (l : List UInt8) (e : Int) : (rdB l e).1 < 256 := by
  rw [rdB.eq_def]
  split
  · cases l with
    | nil => simp
    | cons c r => exact c.toNat_lt
  · show 0 < 256
    omega
theorem rdS_len (l : List UInt8) (e m : Int) : (rdS l e m).2.1.length ≤ l.length ∧ (rdS l e m).1.length ≤ l.length := by
  rw [rdS]
  split
  · simp
  · split
    · simp
    · simp only [List.length_drop, List.length_take]
      omega
theorem rdU_back {l l' : List UInt8} {e : Int} {n : Nat} (h : rdU l e = (n, l', 0)) : e = 0 ∧ F64 n ∧ l = enc n ++ l' := by
  by_cases h0 : e = 0
  · subst h0
    rw [rdU, if_pos rfl] at h
    simp only [Prod.mk.injEq] at h
    obtain ⟨h1, h2, h3⟩ := h
    have hf := (num_facts l).2.1
    have h3 : (num l).2.2 = 0 := by omega
    have hc := num_canon (l := l) (n := n) (long := (num l).2.1) (by rw [← h1, ← h3])
    refine ⟨rfl, h1 ▸ hf, ?_⟩
    rw [hc, ← h2, List.take_append_drop]
  · rw [rdU, if_neg h0] at h
    simp only [Prod.mk.injEq] at h
    exact absurd h.2.2 h0
theorem rdB_back {l l' : List UInt8} {e : Int} {n : Nat} (h : rdB l e = (n, l', 0)) : e = 0 ∧ l = UInt8.ofNat n :: l' := by
  rw [rdB.eq_def] at h
  by_cases h0 : e = 0
  · subst h0
    cases l with
    | nil => simp at h
    | cons c r =>
      simp only [if_pos, Prod.mk.injEq] at h
      obtain ⟨rfl, rfl, _⟩ := h
      exact ⟨rfl, by simp⟩
  · rw [if_neg h0] at h
    simp only [Prod.mk.injEq] at h
    exact absurd h.2.2 h0
theorem rdS_back {l l' s : List UInt8} {e m : Int} (h : rdS l e m = (s, l', 0)) : e = 0 ∧ l = encS s ++ l' ∧ (s.length : Int) ≤ m := by
  by_cases h0 : e = 0
  · subst h0
    rw [rdS, if_neg (by omega)] at h
    by_cases hb : strErr (num l).1 (num l).2.2 (l.length - (num l).2.1) m = 0
    · rw [if_neg (by omega)] at h
      simp only [Prod.mk.injEq, and_true] at h
      obtain ⟨h1, h2⟩ := h
      have hf := num_facts l
      have h3 : (num l).2.2 = 0 := by
        by_cases hq : (num l).2.2 = 0
        · exact hq
        · rw [strErr, if_pos hq] at hb; omega
      have h4 : 0 ≤ m ∧ ((num l).1 : Int) ≤ m := by
        by_cases hq : m < 0 ∨ m < (num l).1
        · rw [strErr, if_neg (by omega), if_pos hq] at hb; omega
        · omega
      have h5 : (num l).1 ≤ l.length - (num l).2.1 := by
        by_cases hq : l.length - (num l).2.1 < (num l).1
        · rw [strErr, if_neg (by omega), if_neg (by omega), if_pos hq] at hb; omega
        · omega
      have hl : s.length = (num l).1 := by
        rw [← h1, List.length_take, List.length_drop]
        omega
      have hc := num_canon (l := l) (n := s.length) (long := (num l).2.1) (by rw [hl, ← h3])
      refine ⟨rfl, ?_, by omega⟩
      rw [encS, hc, ← h1, ← h2, List.append_assoc, ← List.drop_drop, List.take_append_drop, List.take_append_drop]
    · rw [if_pos (by omega)] at h
      simp only [Prod.mk.injEq] at h
      exact absurd h.2.2 hb
  · rw [rdS, if_pos h0] at h
    simp only [Prod.mk.injEq] at h
    exact absurd h.2.2 h0
end Go.Proofs.Ytoiaigbagfalmaa
