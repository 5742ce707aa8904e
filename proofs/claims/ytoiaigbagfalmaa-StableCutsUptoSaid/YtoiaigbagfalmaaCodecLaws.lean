/- Numbers as bytes, in plain Lean: what is written is read as it was; bytes that are a number are those it is written in. -/
import Derived.Test.YtoiaigbagfalmaaCodecReader
namespace Go.Proofs.Ytoiaigbagfalmaa
set_option linter.unusedVariables false

theorem toNat_ofNat {n : Nat} (h : n < 256) : (UInt8.ofNat n).toNat = n := by
  simp only [UInt8.toNat_ofNat']
  omega

theorem scan_enc : ∀ (k i m acc : Nat) (t : List UInt8), i + k = 9 → (0 < i → 0 < m) → m < 2 * 128 ^ k → scan (encF k m ++ t) i acc = (acc + m * 128 ^ i, i + (encF k m).length, 0)
  | 0, i, m, acc, t, hi, hp, hm => by
    have hm' : m < 2 := by simpa using hm
    have hi' : i = 9 := by omega
    have hp' := hp (by omega)
    simp only [encF, List.singleton_append, scan, toNat_ofNat (show m < 256 by omega)]
    rw [if_neg (by omega), if_pos (by omega), Nat.mod_eq_of_lt (by omega)]
    rfl
  | k + 1, i, m, acc, t, hi, hp, hm => by
    by_cases h : m < 128
    · rw [encF_small h]
      simp only [List.singleton_append, scan, toNat_ofNat (show m < 256 by omega)]
      rw [if_neg (by omega), if_pos (by omega), Nat.mod_eq_of_lt (by omega)]
      rfl
    · rw [encF_big (by omega)]
      simp only [List.cons_append, scan, toNat_ofNat (show m % 128 + 128 < 256 by omega)]
      rw [if_neg (by omega), if_neg (by omega), scan_enc k (i + 1) (m / 128) _ t (by omega) (by omega) (by rw [Nat.pow_succ] at hm; omega)]
      have e1 : (m % 128 + 128) % 128 = m % 128 := by omega
      have e2 : m = m % 128 + 128 * (m / 128) := by omega
      rw [e1]
      congr 1
      · rw [Nat.pow_succ]
        conv => rhs; rw [e2, Nat.add_mul]
        rw [Nat.add_assoc, Nat.mul_comm 128 (m / 128), Nat.mul_assoc, Nat.mul_comm (128 ^ i) 128]
      · simp only [List.length_cons, Prod.mk.injEq, and_true]
        omega

theorem num_enc (n : Nat) (h : F64 n) (t : List UInt8) : num (enc n ++ t) = (n, (enc n).length, 0) := by
  have := scan_enc 9 0 n 0 t rfl (by omega) (by unfold F64 at h; omega)
  simpa [num, enc] using this

theorem enc_inj {a b : Nat} (ha : F64 a) (hb : F64 b) (h : enc a = enc b) : a = b := by
  have h1 := num_enc a ha []
  have h2 := num_enc b hb []
  rw [h, h2] at h1
  exact (congrArg Prod.fst h1).symm

theorem scan_cut : ∀ (k i m acc j : Nat), i + k = 9 → (0 < i → 0 < m) → m < 2 * 128 ^ k → j < (encF k m).length → scan ((encF k m).take j) i acc = (0, 0, 4)
  | 0, i, m, acc, j, hi, hp, hm, hj => by
    have : j = 0 := by simp [encF] at hj; omega
    subst this
    rfl
  | k + 1, i, m, acc, j, hi, hp, hm, hj => by
    by_cases h : m < 128
    · rw [encF_small h] at hj ⊢
      have : j = 0 := by simp at hj; omega
      subst this
      rfl
    · rw [encF_big (by omega)] at hj ⊢
      cases j with
      | zero => rfl
      | succ j =>
        simp only [List.take_succ_cons, scan, toNat_ofNat (show m % 128 + 128 < 256 by omega)]
        rw [if_neg (by omega), if_neg (by omega)]
        exact scan_cut k (i + 1) (m / 128) _ j (by omega) (by omega) (by rw [Nat.pow_succ] at hm; omega) (by simpa using hj)

theorem num_cut (n : Nat) (h : F64 n) {j : Nat} (hj : j < (enc n).length) : num ((enc n).take j) = (0, 0, 4) :=
  scan_cut 9 0 n 0 j rfl (by omega) (by unfold F64 at h; omega) hj

theorem scan_canon : ∀ (l : List UInt8) (i acc n long : Nat), i ≤ 9 → scan l i acc = (n, long, 0) → ∃ m, n = acc + m * 128 ^ i ∧ i < long ∧ l.take (long - i) = encF (9 - i) m ∧ (0 < i → 0 < m) ∧ m < 2 * 128 ^ (9 - i)
  | [], i, acc, n, long, hi, h => by simp [scan] at h
  | c :: r, i, acc, n, long, hi, h => by
    have hc := c.toNat_lt
    have hu : UInt8.ofNat c.toNat = c := by simp
    unfold scan at h
    split at h
    · simp at h
    · rename_i h1
      split at h
      · rename_i h2
        simp only [Prod.mk.injEq] at h
        obtain ⟨rfl, rfl, _⟩ := h
        refine ⟨c.toNat, by rw [Nat.mod_eq_of_lt h2], by omega, ?_, by omega, ?_⟩
        · rw [show i + 1 - i = 1 by omega, encF_small h2, hu]
          rfl
        · by_cases h9 : i = 9
          · subst h9
            simp
            omega
          · obtain ⟨j, hj⟩ : ∃ j, 9 - i = j + 1 := ⟨9 - i - 1, by omega⟩
            rw [hj, Nat.pow_succ]
            have := Nat.pow_pos (n := j) (show 0 < 128 by omega)
            omega
      · rename_i h2
        have h9 : i ≠ 9 := by
          rintro rfl
          omega
        obtain ⟨m, hn, hlt, ht, hm, hb⟩ := scan_canon r (i + 1) _ n long (by omega) h
        have hm := hm (by omega)
        obtain ⟨j, hj⟩ : ∃ j, 9 - i = j + 1 := ⟨9 - i - 1, by omega⟩
        have hj' : 9 - (i + 1) = j := by omega
        refine ⟨c.toNat % 128 + 128 * m, ?_, by omega, ?_, by omega, ?_⟩
        · rw [hn, Nat.pow_succ, Nat.add_mul, Nat.add_assoc, Nat.mul_comm 128 m, Nat.mul_assoc, Nat.mul_comm (128 ^ i) 128]
        · rw [show long - i = long - (i + 1) + 1 by omega, List.take_succ_cons, ht, hj, hj', encF_big (by omega)]
          have e1 : (c.toNat % 128 + 128 * m) % 128 + 128 = c.toNat := by omega
          have e2 : (c.toNat % 128 + 128 * m) / 128 = m := by omega
          rw [e1, e2, hu]
        · rw [hj, Nat.pow_succ]
          rw [hj'] at hb
          omega

theorem num_canon {l : List UInt8} {n long : Nat} (h : num l = (n, long, 0)) : enc n = l.take long := by
  obtain ⟨m, hn, _, ht, _, _⟩ := scan_canon l 0 0 n long (by omega) h
  have : n = m := by rw [hn]; simp
  subst this
  exact ht.symm

theorem zag_zig (i : Int) : zag (zig i) = i := by
  unfold zag zig
  split <;> split <;> omega

/-- What the document's three writes come to, one behind the other. -/
def threeOf (n : Nat) (i : Int) (l : List UInt8) : List UInt8 := enc n ++ (enc (zig i) ++ encS l)

theorem rdU_enc (n : Nat) (h : F64 n) (t : List UInt8) : rdU (enc n ++ t) 0 = (n, t, 0) := by
  rw [rdU, if_pos rfl, num_enc n h]
  simp
theorem rdS_enc (l t : List UInt8) (hl : l.length ≤ 1000000) (most : Int) (hm : l.length ≤ most) : rdS (encS l ++ t) 0 most = (l, t, 0) := by
  have hf : F64 l.length := by unfold F64; omega
  have e : num (encS l ++ t) = (l.length, (enc l.length).length, 0) := by rw [encS, List.append_assoc]; exact num_enc _ hf _
  have hs : strErr l.length 0 ((encS l ++ t).length - (enc l.length).length) most = 0 := by
    rw [strErr, if_neg (by omega), if_neg (by omega), if_neg (by simp [encS])]
  rw [rdS, e, if_neg (by omega)]
  simp only
  rw [hs, if_neg (by omega)]
  have h1 : (encS l ++ t).drop (enc l.length).length = l ++ t := by rw [encS, List.append_assoc, List.drop_left]
  have h2 : (encS l ++ t).drop ((enc l.length).length + l.length) = t := by rw [← List.drop_drop, h1, List.drop_left]
  rw [h1, h2, List.take_left]

/-- A cut number. -/
theorem rdU_cut (n : Nat) (h : F64 n) {j : Nat} (hj : j < (enc n).length) : rdU ((enc n).take j) 0 = (0, (enc n).take j, 4) := by
  rw [rdU, if_pos rfl, num_cut n h hj]
  rfl
theorem rdS_cut (l : List UInt8) (hl : l.length ≤ 1000000) {j : Nat} (hj : j < (encS l).length) : (rdS ((encS l).take j) 0 l.length).2.2 = 4 := by
  have hf : F64 l.length := by unfold F64; omega
  by_cases h : j < (enc l.length).length
  · have e : (encS l).take j = (enc l.length).take j := by rw [encS, List.take_append_of_le_length (by omega)]
    have hs : ∀ k, strErr 0 4 k l.length = 4 := fun k => by rw [strErr, if_pos (by omega)]; rfl
    rw [rdS, if_neg (by omega), e, num_cut _ hf h]
    simp only
    rw [hs, if_pos (by omega)]
  · have e : (encS l).take j = enc l.length ++ l.take (j - (enc l.length).length) := by rw [encS, List.take_append, List.take_of_length_le (by omega)]
    have hlen : (encS l).length = (enc l.length).length + l.length := by simp [encS]
    have hs : strErr l.length 0 ((enc l.length ++ l.take (j - (enc l.length).length)).length - (enc l.length).length) l.length = 4 := by
      rw [strErr, if_neg (by omega), if_neg (by omega), if_pos (by simp; omega)]
    rw [rdS, if_neg (by omega), e, num_enc _ hf]
    simp only
    rw [hs, if_pos (by omega)]
end Go.Proofs.Ytoiaigbagfalmaa
