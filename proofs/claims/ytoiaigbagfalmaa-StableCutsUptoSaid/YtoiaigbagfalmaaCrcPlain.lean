/- Sums of bytes, in plain Lean: what a byte makes of a sum; unlike texts of one length that differ in a byte have unlike sums. No program in sight. -/
import Derived.WalkKit
import Derived.Laws.BitsAllLaws
namespace Go.Proofs.Ytoiaigbagfalmaa
set_option linter.unusedVariables false

/-- A number of 32 bits. -/
def F32 (c : Nat) : Prop := c < 4294967296
/-- The polynomial. -/
def poly : Nat := 3988292384
/-- One bit. -/
def st (c : Nat) : Nat := if c % 2 = 1 then c / 2 ^^^ poly else c / 2
/-- Some bits. -/
def stn : Nat → Nat → Nat
  | 0, c => c
  | k + 1, c => stn k (st c)

theorem xor32 {a b : Nat} (ha : F32 a) (hb : F32 b) : F32 (a ^^^ b) := Nat.xor_lt_two_pow (n := 32) ha hb
theorem st_fit {c : Nat} (h : F32 c) : F32 (st c) := by
  unfold st
  split
  · exact xor32 (by unfold F32 at *; omega) (by unfold F32 poly; omega)
  · unfold F32 at *; omega
theorem stn_fit (k : Nat) {c : Nat} (h : F32 c) : F32 (stn k c) := by
  induction k generalizing c with
  | zero => exact h
  | succ k ih => exact ih (st_fit h)
theorem stn_snoc (k : Nat) (c : Nat) : stn (k + 1) c = st (stn k c) := by
  induction k generalizing c with
  | zero => rfl
  | succ k ih => rw [stn, ih]; rfl

theorem xor_half (a b : Nat) : (a ^^^ b) / 2 = a / 2 ^^^ b / 2 := by
  exact Nat.xor_div_two
theorem xor_mod2 (a b : Nat) : (a ^^^ b) % 2 = (a + b) % 2 := by
  have h := Nat.xor_mod_two_eq_one (a := a) (b := b)
  by_cases h1 : a % 2 = 1 <;> by_cases h2 : b % 2 = 1
  · have : ¬ (a ^^^ b) % 2 = 1 := fun e => h.1 e (by simp [h1, h2])
    omega
  · have : (a ^^^ b) % 2 = 1 := h.2 (by simp [h1, h2])
    omega
  · have : (a ^^^ b) % 2 = 1 := h.2 (by simp [h1, h2])
    omega
  · have : ¬ (a ^^^ b) % 2 = 1 := fun e => h.1 e (by simp [h1, h2])
    omega

theorem st_xor (a b : Nat) : st (a ^^^ b) = st a ^^^ st b := by
  unfold st
  rw [xor_half, xor_mod2]
  have pp : ∀ x y : Nat, x ^^^ y = (x ^^^ poly) ^^^ (y ^^^ poly) := fun x y => by
    rw [Nat.xor_assoc, ← Nat.xor_assoc poly, Nat.xor_comm poly y, Nat.xor_assoc y, Nat.xor_self, Nat.xor_zero]
  by_cases h1 : a % 2 = 1 <;> by_cases h2 : b % 2 = 1
  · rw [if_neg (by omega), if_pos h1, if_pos h2]
    exact pp _ _
  · rw [if_pos (by omega), if_pos h1, if_neg h2, Nat.xor_assoc, Nat.xor_assoc, Nat.xor_comm (b / 2)]
  · rw [if_pos (by omega), if_neg h1, if_pos h2, Nat.xor_assoc]
  · rw [if_neg (by omega), if_neg h1, if_neg h2]
theorem stn_xor (k a b : Nat) : stn k (a ^^^ b) = stn k a ^^^ stn k b := by
  induction k generalizing a b with
  | zero => rfl
  | succ k ih => rw [stn, st_xor, ih]; rfl

theorem st_even (h : Nat) : st (2 * h) = h := by
  unfold st
  rw [if_neg (by omega)]
  omega
theorem stn_shift (h : Nat) : stn 8 (256 * h) = h := by
  have e : 256 * h = 2 * (2 * (2 * (2 * (2 * (2 * (2 * (2 * h))))))) := by omega
  rw [e]
  simp only [stn, st_even]

/-- One byte more. -/
def crcB (c b : Nat) : Nat := stn 8 (c ^^^ b)
theorem split_byte (c : Nat) : c = c % 256 ^^^ 256 * (c / 256) := by
  apply Nat.eq_of_testBit_eq
  intro i
  rw [Nat.testBit_xor, show (256 : Nat) = 2 ^ 8 from rfl, Nat.testBit_mod_two_pow, Nat.testBit_two_pow_mul, Nat.testBit_div_two_pow]
  by_cases h : i < 8
  · simp [h, show ¬ i ≥ 8 by omega]
  · simp [h, show i ≥ 8 by omega, show i - 8 + 8 = i by omega]
theorem crc_table (c b : Nat) : stn 8 (c % 256 ^^^ b) ^^^ c / 256 = crcB c b := by
  unfold crcB
  conv => rhs; rw [split_byte c]
  rw [Nat.xor_assoc, Nat.xor_comm (256 * (c / 256)) b, ← Nat.xor_assoc, stn_xor 8 (c % 256 ^^^ b), stn_shift]

theorem crcB_fit {c b : Nat} (hc : F32 c) (hb : b < 256) : F32 (crcB c b) := stn_fit 8 (xor32 hc (by unfold F32; omega))

theorem st_inj {a b : Nat} (ha : F32 a) (hb : F32 b) (h : st a = st b) : a = b := by
  have top : ∀ x : Nat, F32 x → (x / 2 ^^^ poly).testBit 31 = true := fun x hx => by
    rw [Nat.testBit_xor, Nat.testBit_lt_two_pow (show x / 2 < 2 ^ 31 by unfold F32 at hx; omega)]
    rfl
  have low : ∀ x : Nat, F32 x → (x / 2).testBit 31 = false := fun x hx => Nat.testBit_lt_two_pow (show x / 2 < 2 ^ 31 by unfold F32 at hx; omega)
  unfold st at h
  by_cases h1 : a % 2 = 1 <;> by_cases h2 : b % 2 = 1
  · rw [if_pos h1, if_pos h2] at h
    have := congrArg (· ^^^ poly) h
    simp only [Nat.xor_assoc, Nat.xor_self, Nat.xor_zero] at this
    omega
  · rw [if_pos h1, if_neg h2] at h
    have := top a ha
    rw [h, low b hb] at this
    exact absurd this (by decide)
  · rw [if_neg h1, if_pos h2] at h
    have := top b hb
    rw [← h, low a ha] at this
    exact absurd this (by decide)
  · rw [if_neg h1, if_neg h2] at h
    omega
theorem stn_inj (k : Nat) {a b : Nat} (ha : F32 a) (hb : F32 b) (h : stn k a = stn k b) : a = b := by
  induction k generalizing a b with
  | zero => exact h
  | succ k ih => exact st_inj ha hb (ih (st_fit ha) (st_fit hb) h)
theorem xor_cancel {a b c : Nat} (h : a ^^^ c = b ^^^ c) : a = b := by
  have := congrArg (· ^^^ c) h
  simpa only [Nat.xor_assoc, Nat.xor_self, Nat.xor_zero] using this

/-- A text's sum so far. -/
def crcL : Nat → List UInt8 → Nat
  | c, [] => c
  | c, b :: r => crcL (crcB c b.toNat) r
theorem crcL_fit {c : Nat} (hc : F32 c) (l : List UInt8) : F32 (crcL c l) := by
  induction l generalizing c with
  | nil => exact hc
  | cons b r ih => exact ih (crcB_fit hc b.toNat_lt)
theorem crcL_append (c : Nat) (l r : List UInt8) : crcL c (l ++ r) = crcL (crcL c l) r := by
  induction l generalizing c with
  | nil => rfl
  | cons b t ih => exact ih _
theorem crcL_snoc (c : Nat) (l : List UInt8) (b : UInt8) : crcL c (l ++ [b]) = crcB (crcL c l) b.toNat := crcL_append c l [b]
theorem crcL_inj {a b : Nat} (ha : F32 a) (hb : F32 b) (l : List UInt8) (h : crcL a l = crcL b l) : a = b := by
  induction l generalizing a b with
  | nil => exact h
  | cons x r ih =>
    have hx : F32 x.toNat := by have := x.toNat_lt; unfold F32; omega
    exact xor_cancel (stn_inj 8 (xor32 ha hx) (xor32 hb hx) (ih (crcB_fit ha x.toNat_lt) (crcB_fit hb x.toNat_lt) h))

def ones : Nat := 4294967295
theorem ones_fit : F32 ones := by unfold F32 ones; omega
/-- A text's sum. -/
def crcOf (l : List UInt8) : Nat := ones - crcL ones l
theorem crcOf_fit (l : List UInt8) : F32 (crcOf l) := by unfold crcOf ones F32; omega
/-- A text's sum, with one byte of it another. -/
theorem crcOf_set (l : List UInt8) {k : Nat} (hk : k < l.length) {c : UInt8} (hne : c ≠ l[k]) : crcOf (l.set k c) ≠ crcOf l := by
  intro h
  have e : l = l.take k ++ l[k] :: l.drop (k + 1) := by simp
  have e' : l.set k c = l.take k ++ c :: l.drop (k + 1) := by rw [List.set_eq_take_append_cons_drop, if_pos hk]
  have fit := fun r => crcL_fit ones_fit r
  have h1 : crcL ones (l.set k c) = crcL ones l := by
    have a := fit (l.set k c)
    have b := fit l
    unfold crcOf at h
    unfold F32 ones at *
    omega
  rw [e'] at h1
  conv at h1 => rhs; rw [e]
  rw [crcL_append, crcL_append] at h1
  have fx : ∀ x : UInt8, F32 x.toNat := fun x => by have := x.toNat_lt; unfold F32; omega
  have h2 := crcL_inj (crcB_fit (fit _) c.toNat_lt) (crcB_fit (fit _) l[k].toNat_lt) _ h1
  have h3 := stn_inj 8 (xor32 (fit _) (fx _)) (xor32 (fit _) (fx _)) h2
  rw [Nat.xor_comm, Nat.xor_comm (crcL ones (l.take k))] at h3
  exact hne (UInt8.toNat_inj.1 (xor_cancel h3))

/-- The sum's four bytes. -/
def four (n : Nat) : List UInt8 := [UInt8.ofNat (n / 16777216), UInt8.ofNat (n / 65536 % 256), UInt8.ofNat (n / 256 % 256), UInt8.ofNat (n % 256)]
theorem four_inj {a b : Nat} (ha : F32 a) (hb : F32 b) (h : four a = four b) : a = b := by
  unfold four at h
  simp only [List.cons.injEq, and_true] at h
  obtain ⟨h1, h2, h3, h4⟩ := h
  have t := fun (x y : Nat) (hx : x < 256) (hy : y < 256) (h : UInt8.ofNat x = UInt8.ofNat y) => (show x = y by
    have := congrArg UInt8.toNat h
    simp only [UInt8.toNat_ofNat'] at this
    omega)
  unfold F32 at *
  have := t _ _ (by omega) (by omega) h1
  have := t _ _ (by omega) (by omega) h2
  have := t _ _ (by omega) (by omega) h3
  have := t _ _ (by omega) (by omega) h4
  omega
/-- A text with its sum. -/
def frame (l : List UInt8) : List UInt8 := l ++ four (crcOf l)
theorem frame_len (l : List UInt8) : (frame l).length = l.length + 4 := by simp [frame, four]
/-- Are bytes a text with its sum? -/
def whole (l : List UInt8) : Bool := decide (4 ≤ l.length) && decide (frame (l.take (l.length - 4)) = l)
theorem whole_frame (l : List UInt8) : whole (frame l) = true := by
  have : (frame l).take ((frame l).length - 4) = l := by rw [frame_len]; simp [frame]
  unfold whole
  rw [this]
  simp [frame_len]
theorem frame_take (l : List UInt8) : (frame l).take ((frame l).length - 4) = l := by rw [frame_len]; simp [frame]
/-- A text with its sum, of which a byte was changed, is none. -/
theorem whole_set (l : List UInt8) {k : Nat} (hk : k < (frame l).length) {c : UInt8} (hne : c ≠ (frame l)[k]) : whole ((frame l).set k c) = false := by
  have hlen := frame_len l
  by_cases h : whole ((frame l).set k c) = false
  · exact h
  exfalso
  have h : whole ((frame l).set k c) = true := by simpa using h
  simp only [whole, List.length_set, hlen, Bool.and_eq_true, decide_eq_true_eq] at h
  obtain ⟨_, h⟩ := h
  rw [show l.length + 4 - 4 = l.length by omega] at h
  by_cases hl : k < l.length
  · have e1 : ((frame l).set k c).take l.length = l.set k c := by
      rw [frame, List.set_append_left _ _ hl, List.take_left' (by simp)]
    have e2 : (frame l).set k c = l.set k c ++ four (crcOf l) := by rw [frame, List.set_append_left _ _ hl]
    rw [e1, e2, frame] at h
    have h4 := (List.append_inj' h (by simp [four])).2
    have := four_inj (crcOf_fit _) (crcOf_fit _) h4
    refine crcOf_set l hl ?_ this
    intro hc
    exact hne (by rw [hc]; simp [frame, hl])
  · have e1 : ((frame l).set k c).take l.length = l := by
      rw [frame, List.set_append_right _ _ (by omega), List.take_left' (by simp)]
    rw [e1] at h
    have := congrArg (fun x => x[k]?) h
    simp only [List.getElem?_set_self hk, List.getElem?_eq_getElem hk, Option.some.injEq] at this
    exact hne this.symm
end Go.Proofs.Ytoiaigbagfalmaa
