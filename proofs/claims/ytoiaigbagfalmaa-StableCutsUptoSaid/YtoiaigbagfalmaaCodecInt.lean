/- The contracts of the writing half of package codec: numbers with a sign, texts. -/
import Derived.Test.YtoiaigbagfalmaaCodecUint
import Derived.Laws.Bits64
import Derived.Laws.BitsLemmas
namespace Go.Proofs.Ytoiaigbagfalmaa
open Go.RowKit Go.ChangeShapes Go.WideShapes Go.Joins
set_option linter.unusedVariables false

/-- A number with a sign, as one without. -/
def zig (i : Int) : Nat := if 0 ≤ i then (2 * i).toNat else (-2 * i - 1).toNat
theorem zig_fit {i : Int} (h : W64 i) : F64 (zig i) := by
  have := h.bd
  unfold F64 zig
  split <;> omega

theorem xor_ones (a : Nat) (ha : a < 18446744073709551616) : a ^^^ 18446744073709551615 = 18446744073709551615 - a := by
  have h := congrArg BitVec.toNat (BitVec.xor_allOnes (x := BitVec.ofNat 64 a))
  rw [BitVec.toNat_xor, BitVec.toNat_not, BitVec.toNat_ofNat, BitVec.toNat_allOnes] at h
  have e : a % 2 ^ 64 = a := Nat.mod_eq_of_lt (by omega)
  rw [e] at h
  exact h

theorem zig_code {i : Int} (h : W64 i) : bits .xor .u64 (IntKind.u64.wrap (IntKind.u64.wrap i * 2)) (IntKind.u64.wrap (i / 9223372036854775808)) = (zig i : Int) := by
  have hb := h.bd
  simp only [IntKind.wrap_u64]
  unfold zig
  split
  · rename_i h0
    have e1 : (i % 18446744073709551616 * 2 % 18446744073709551616) = (((2 * i).toNat : Nat) : Int) := by omega
    have e2 : (i / 9223372036854775808 % 18446744073709551616) = ((0 : Nat) : Int) := by omega
    rw [e1, e2, bits_xor_u64_nat _ _ (by omega) (by omega), Nat.xor_zero]
  · rename_i h0
    have e1 : (i % 18446744073709551616 * 2 % 18446744073709551616) = (((2 * i + 18446744073709551616).toNat : Nat) : Int) := by omega
    have e2 : (i / 9223372036854775808 % 18446744073709551616) = ((18446744073709551615 : Nat) : Int) := by omega
    rw [e1, e2, bits_xor_u64_nat _ _ (by omega) (by omega), xor_ones _ (by omega)]
    omega

theorem zig_pos {i : Int} (h : W64 i) (h0 : 0 ≤ i) : IntKind.u64.wrap (2 * IntKind.u64.wrap i) = (zig i : Int) := by
  have hb := h.bd
  simp only [IntKind.wrap_u64]
  rw [zig, if_pos h0]
  omega
theorem zig_neg {i : Int} (h : W64 i) (h0 : ¬ 0 ≤ i) : IntKind.u64.wrap (IntKind.u64.wrap (2 * IntKind.u64.wrap (wrap64 (-wrap64 (i + 1)))) + 1) = (zig i : Int) := by
  have hb := h.bd
  rw [IntWalk.wrap64_in (i + 1) ⟨by omega, by omega⟩, IntWalk.wrap64_in _ ⟨by omega, by omega⟩]
  simp only [IntKind.wrap_u64]
  rw [zig, if_neg h0]
  omega

theorem enc_len (n : Nat) : 1 ≤ (enc n).length ∧ (enc n).length ≤ 10 := encF_len 9 n

/-- A text's bytes: how long it is, and itself. -/
def encS (l : List UInt8) : List UInt8 := enc l.length ++ l

set_option maxHeartbeats 1000000 in
theorem cstr_any (l : List UInt8) (hl : l.length ≤ 1000000) (w : World) :
    Calls Try.prog 27 #[.string ⟨l.toArray⟩] w fun e w' => e = .returned (.string ⟨(encS l).toArray⟩) ∧ Below w.heap.size w w' := by
  have hle := (enc_len l.length).2
  go_enter Try.func27, Try.ntmps27
  go_wp2_with fail
  refine (cuint_any l.length (by unfold F64; omega) _).mono ?_
  rintro e w' ⟨rfl, hb⟩
  go_wp2_with fail
  go_ret
  exact ⟨by rw [encS, ← ByteArray.mk_append_mk]; rfl, hb⟩

set_option maxHeartbeats 1000000 in
theorem qstr_any (l : List UInt8) (hl : l.length ≤ 1000000) (w : World) :
    Calls Try.prog 37 #[.string ⟨l.toArray⟩] w fun e w' => e = .returned (.string ⟨(encS l).toArray⟩) ∧ Below w.heap.size w w' := by
  have hle := (enc_len l.length).2
  go_enter Try.func37, Try.ntmps37
  go_wp2_with fail
  refine (quint_any l.length (by unfold F64; omega) _).mono ?_
  rintro e w' ⟨rfl, hb⟩
  go_wp2_with fail
  go_ret
  exact ⟨by rw [encS, ← ByteArray.mk_append_mk]; rfl, hb⟩
end Go.Proofs.Ytoiaigbagfalmaa
