/- Numbers as bytes, in plain Lean: how a number is written in groups of seven bits, and how it is read. No program in sight. -/
import Derived.WalkKit
namespace Go.Proofs.Ytoiaigbagfalmaa

/-- A number's bytes, at most k + 1 of them. -/
def encF : Nat → Nat → List UInt8
  | 0, n => [UInt8.ofNat n]
  | k + 1, n => if n < 128 then [UInt8.ofNat n] else UInt8.ofNat (n % 128 + 128) :: encF k (n / 128)
def enc (n : Nat) : List UInt8 := encF 9 n

theorem encF_len (k n : Nat) : 1 ≤ (encF k n).length ∧ (encF k n).length ≤ k + 1 := by
  induction k generalizing n with
  | zero => simp [encF]
  | succ k ih =>
    unfold encF
    split
    · simp
    · have := ih (n / 128)
      simp only [List.length_cons]
      omega

/-- One more group, the others ahead of it. -/
theorem encF_small {k n : Nat} (h : n < 128) : encF k n = [UInt8.ofNat n] := by
  cases k <;> simp [encF, h]
theorem encF_big {k n : Nat} (h : 128 ≤ n) : encF (k + 1) n = UInt8.ofNat (n % 128 + 128) :: encF k (n / 128) := by
  rw [encF, if_neg (by omega)]

/-- What a number at the beginning of bytes is: the number, how long it is, what is wrong (3: a form that may not be; 4: cut off). -/
def scan : List UInt8 → Nat → Nat → Nat × Nat × Nat
  | [], _, _ => (0, 0, 4)
  | c :: r, i, acc =>
    if i = 9 ∧ 1 < c.toNat ∨ 0 < i ∧ c.toNat = 0 then (0, 0, 3)
    else if c.toNat < 128 then (acc + c.toNat % 128 * 128 ^ i, i + 1, 0)
    else scan r (i + 1) (acc + c.toNat % 128 * 128 ^ i)
def num (l : List UInt8) : Nat × Nat × Nat := scan l 0 0

end Go.Proofs.Ytoiaigbagfalmaa
