/- The contract of number: what a number at the beginning of bytes is. -/
import Derived.Test.YtoiaigbagfalmaaCodecRead
import Derived.Laws.ShiftsVarLaws
namespace Go.Proofs.Ytoiaigbagfalmaa
open Go.RowKit Go.ChangeShapes Go.WideShapes Go.Joins
set_option linter.unusedVariables false

theorem or_step (acc k c : Nat) (hc : c < 256) (hk : k ≤ 9) (hacc : acc < 128 ^ k) (h9 : k = 9 → c ≤ 1) :
    bits .or .u64 (acc : Int) (IntKind.u64.wrap (IntKind.u64.wrap (bits .and .u8 (c : Int) 127) * 2 ^ (7 * k))) = ((acc + c % 128 * 128 ^ k : Nat) : Int) := by
  have e1 : bits .and .u8 (c : Int) 127 = ((c % 128 : Nat) : Int) := by
    have := u8_and_nat c 127 hc (by omega)
    rw [show ((127 : Nat) : Int) = 127 from rfl] at this
    rw [this, show (127 : Nat) = 2 ^ 7 - 1 from rfl, Nat.and_two_pow_sub_one_eq_mod]
  have e2 : (128 : Nat) ^ k = 2 ^ (7 * k) := by rw [Nat.pow_mul]
  have hp : (128 : Nat) ^ k ≤ 9223372036854775808 := Nat.le_trans (Nat.pow_le_pow_right (by omega) hk) (by decide)
  have hx : c % 128 * 128 ^ k < 18446744073709551616 := by
    by_cases h : k = 9
    · have := h9 h
      have h1 : c % 128 ≤ 1 := by omega
      have := Nat.mul_le_mul h1 hp
      omega
    · have hp8 : (128 : Nat) ^ k ≤ 72057594037927936 := Nat.le_trans (Nat.pow_le_pow_right (by omega) (show k ≤ 8 by omega)) (by decide)
      have := Nat.mul_le_mul (show c % 128 ≤ 127 by omega) hp8
      omega
  rw [e1, IntKind.wrap_u64, IntKind.wrap_u64]
  have e3 : ((c % 128 : Nat) : Int) % 18446744073709551616 = ((c % 128 : Nat) : Int) := by omega
  have e4 : ((c % 128 : Nat) : Int) * 2 ^ (7 * k) = ((c % 128 * 128 ^ k : Nat) : Int) := by rw [e2]; push_cast; rfl
  rw [e3, e4]
  have e5 : ((c % 128 * 128 ^ k : Nat) : Int) % 18446744073709551616 = ((c % 128 * 128 ^ k : Nat) : Int) := by omega
  rw [e5, u64_or_nat _ _ (by omega) hx]
  have e6 : acc ||| c % 128 * 128 ^ k = acc + c % 128 * 128 ^ k := by
    rw [e2, Nat.mul_comm, Nat.or_comm, ← Nat.two_pow_add_eq_or_of_lt (by rw [← e2]; exact hacc)]
    omega
  rw [e6]

theorem scan_drop {l : List UInt8} {k : Nat} {c : UInt8} (h : l[k]? = some c) (acc : Nat) : scan (l.drop k) k acc =
    if k = 9 ∧ 1 < c.toNat ∨ 0 < k ∧ c.toNat = 0 then (0, 0, 3)
    else if c.toNat < 128 then (acc + c.toNat % 128 * 128 ^ k, k + 1, 0)
    else scan (l.drop (k + 1)) (k + 1) (acc + c.toNat % 128 * 128 ^ k) := by
  obtain ⟨hk, e⟩ := List.getElem?_eq_some_iff.1 h
  rw [List.drop_eq_getElem_cons hk, e]
  rfl

theorem acc_next {acc k c : Nat} (h : acc < 128 ^ k) (hc : c % 128 < 128) : acc + c % 128 * 128 ^ k < 128 ^ (k + 1) := by
  rw [Nat.pow_succ]
  have := Nat.mul_le_mul_right (128 ^ k) (show c % 128 ≤ 127 by omega)
  omega

set_option maxRecDepth 10000 in
set_option maxHeartbeats 1000000 in
theorem number_any (l : List UInt8) (hl : l.length ≤ 1000000) (w : World) :
    Calls Try.prog 41 #[.string ⟨l.toArray⟩] w fun e w' => e = .returned (.tuple #[.int .u64 (num l).1, .int .i64 (num l).2.1, .int .i64 (num l).2.2]) ∧ w = w' := by
  go_enter Try.func41, Try.ntmps41
  go_wp2_with fail
  go_loop [2, 9] (fun a i => ∃ k acc : Nat, k ≤ 9 ∧ k ≤ l.length ∧ i = .int .i64 k ∧ a = .int .u64 acc ∧ acc < 128 ^ k ∧ scan (l.drop k) k acc = num l) (fun _ i => l.length - (intOf i).toNat)
  case atStart => exact ⟨0, 0, by omega, by omega, rfl, rfl, by simp, rfl⟩
  case round =>
    obtain ⟨k, acc, hk, hkl, rfl, rfl, hacc, hs⟩ := hrel
    have HA := Lib.hid hacc
    have HS := Lib.hid hs
    clear hacc hs
    by_cases hlt : k < l.length
    · obtain ⟨c, hc⟩ : ∃ c, l[k]? = some c := ⟨_, List.getElem?_eq_getElem hlt⟩
      have hix : ∀ w, (Instr.index 9 (.string ⟨l.toArray⟩) (.int .i64 (k : Int))).run Try.prog w = .ok (.int .u8 (c.toNat : Int)) w := by
        intro w
        have he := (List.getElem?_eq_some_iff.1 hc).2
        rw [run_index_string _ _ _ _ _ Try.underlying9]
        have hsz : (⟨l.toArray⟩ : ByteArray).size = l.length := by simp [ByteArray.size]
        rw [dif_pos ⟨by omega, by rw [hsz]; omega⟩]
        have hb : (⟨l.toArray⟩ : ByteArray)[((k : Int)).toNat]'(by rw [hsz]; omega) = c := he
        rw [hb]
      have hcl : (c.toNat : Int) < 256 := by have := c.toNat_lt; omega
      have HD := Lib.hid (scan_drop hc acc)
      clear hc
      by_cases h9 : k = 9
      · have h9' : ((k : Int) == 9) = true := by simp; omega
        have h0' : (0 : Int) < k := by omega
        have H9 := Lib.hid h9
        clear h9
        by_cases h1 : 1 < (c.toNat : Int)
        · have HN := Lib.hid (show num l = (0, 0, 3) by rw [← HS.out, HD.out, if_pos (.inl ⟨H9.out, by omega⟩)])
          go_wp2_with fail
          go_ret3
          exact ⟨by rw [HN.out]; rfl, rfl⟩
        · have HO := Lib.hid (or_step acc k c.toNat (by omega) hk HA.out (fun _ => by omega))
          by_cases hz : c.toNat = 0
          · have HN := Lib.hid (show num l = (0, 0, 3) by rw [← HS.out, HD.out, if_pos (.inr ⟨by omega, hz⟩)])
            have hz' : ((c.toNat : Int) == 0) = true := by simp; omega
            have HZ := Lib.hid hz
            clear hz
            go_wp2_with fail
            go_ret3
            exact ⟨by rw [HN.out]; rfl, rfl⟩
          · have HN := Lib.hid (show num l = (acc + c.toNat % 128 * 128 ^ k, k + 1, 0) by rw [← HS.out, HD.out, if_neg (by omega), if_pos (by omega)])
            have hz' : ((c.toNat : Int) == 0) = false := by simp; omega
            have h128 : (c.toNat : Int) < 128 := by omega
            go_wp2_with fail
            go_ret3
            exact ⟨by rw [HN.out]; exact ret3 HO.out, rfl⟩
      · have HO := Lib.hid (or_step acc k c.toNat (by omega) hk HA.out (fun h => absurd h h9))
        have h9' : ((k : Int) == 9) = false := by simp; omega
        by_cases hz : 0 < k ∧ c.toNat = 0
        · have HN := Lib.hid (show num l = (0, 0, 3) by rw [← HS.out, HD.out, if_pos (.inr hz)])
          have h0 : (0 : Int) < k := by omega
          have hz' : ((c.toNat : Int) == 0) = true := by simp; omega
          have HZ := Lib.hid hz
          clear hz
          go_wp2_with fail
          go_ret3
          exact ⟨by rw [HN.out]; rfl, rfl⟩
        · by_cases h128 : (c.toNat : Int) < 128
          · have HN := Lib.hid (show num l = (acc + c.toNat % 128 * 128 ^ k, k + 1, 0) by rw [← HS.out, HD.out, if_neg (by omega), if_pos (by omega)])
            by_cases h0 : 0 < k
            · have h0' : (0 : Int) < k := by omega
              have hz' : ((c.toNat : Int) == 0) = false := by simp; omega
              go_wp2_with fail
              go_ret3
              exact ⟨by rw [HN.out]; exact ret3 HO.out, rfl⟩
            · have h0' : (k : Int) ≤ 0 := by omega
              go_wp2_with fail
              go_ret3
              exact ⟨by rw [HN.out]; exact ret3 HO.out, rfl⟩
          · have HN := Lib.hid (show scan (l.drop (k + 1)) (k + 1) (acc + c.toNat % 128 * 128 ^ k) = num l by rw [← HS.out, HD.out, if_neg (by omega), if_neg (by omega)])
            have HA' := Lib.hid (acc_next (c := c.toNat) HA.out (by omega))
            by_cases h0 : 0 < k
            · have h0' : (0 : Int) < k := by omega
              have hz' : ((c.toNat : Int) == 0) = false := by simp; omega
              go_wp2_with fail
              exact ⟨⟨k + 1, _, by omega, by omega, by go_num, by rw [HO.out], HA'.out, HN.out⟩, by simp [intOf]; omega⟩
            · have h0' : (k : Int) ≤ 0 := by omega
              go_wp2_with fail
              exact ⟨⟨k + 1, _, by omega, by omega, by go_num, by rw [HO.out], HA'.out, HN.out⟩, by simp [intOf]; omega⟩
    · have HN := Lib.hid (show num l = (0, 0, 4) by rw [← HS.out, List.drop_eq_nil_of_le (by omega)]; rfl)
      go_wp2_with fail
      go_ret3
      exact ⟨by rw [HN.out]; rfl, rfl⟩
end Go.Proofs.Ytoiaigbagfalmaa
