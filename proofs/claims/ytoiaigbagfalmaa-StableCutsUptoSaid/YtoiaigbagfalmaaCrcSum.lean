/- The contracts of the sums: the program's, by its table, and the document's, bit by bit. -/
import Derived.Test.YtoiaigbagfalmaaCrcOnce
namespace Go.Proofs.Ytoiaigbagfalmaa
open Go.RowKit Go.ChangeShapes Go.WideShapes Go.Joins
set_option linter.unusedVariables false

theorem take_snoc (l : List UInt8) {k : Nat} {c : UInt8} (h : l[k]? = some c) : l.take (k + 1) = l.take k ++ [c] := by
  obtain ⟨hk, e⟩ := List.getElem?_eq_some_iff.1 h
  rw [List.take_succ_eq_append_getElem hk, e]

/-- A byte more of a sum. -/
theorem crcL_next (l : List UInt8) {k : Nat} {c : UInt8} (h : l[k]? = some c) : crcL ones (l.take (k + 1)) = crcB (crcL ones (l.take k)) c.toNat := by
  rw [take_snoc l h, crcL_snoc]

theorem xor_byte (C : Nat) (c : UInt8) : bits .xor .u8 ((C : Int) % 256) (c.toNat : Int) = ((C % 256 ^^^ c.toNat : Nat) : Int) := by
  have := c.toNat_lt
  rw [show (C : Int) % 256 = ((C % 256 : Nat) : Int) by omega]
  exact u8_xor_nat _ _ (by omega) this
theorem byte_lt (C : Nat) (c : UInt8) : C % 256 ^^^ c.toNat < 256 := Nat.xor_lt_two_pow (n := 8) (Nat.mod_lt _ (by omega)) c.toNat_lt
theorem sum_code {C : Nat} (hC : F32 C) (c : UInt8) : bits .xor .u32 ((stn 8 (C % 256 ^^^ c.toNat) : Nat) : Int) ((C : Int) / 256) = (crcB C c.toNat : Int) := by
  have h1 := byte_lt C c
  have h2 := stn_fit 8 (show F32 (C % 256 ^^^ c.toNat) by unfold F32; omega)
  unfold F32 at *
  rw [show (C : Int) / 256 = ((C / 256 : Nat) : Int) by omega, u32_xor_nat _ _ h2 (by omega), crc_table]
theorem xor_ones32 (a : Nat) (ha : a < 4294967296) : 4294967295 ^^^ a = 4294967295 - a := by
  have h := congrArg BitVec.toNat (BitVec.xor_allOnes (x := BitVec.ofNat 32 a))
  rw [BitVec.toNat_xor, BitVec.toNat_not, BitVec.toNat_ofNat, BitVec.toNat_allOnes] at h
  have e : a % 2 ^ 32 = a := Nat.mod_eq_of_lt (by omega)
  rw [e, Nat.xor_comm] at h
  exact h
theorem not_code {C : Nat} (hC : F32 C) : bits .xor .u32 IntKind.u32.max (C : Int) = ((ones - C : Nat) : Int) := by
  unfold F32 at hC
  rw [show IntKind.u32.max = ((4294967295 : Nat) : Int) from by decide +kernel, u32_xor_nat _ _ (by omega) hC, xor_ones32 _ hC]
  rfl

set_option maxRecDepth 100000 in
set_option maxHeartbeats 1000000 in
theorem sum_any {w : World} {b : Nat} {m : Int} (h : TabOk w b m) (l : List UInt8) (hl : l.length ≤ 1000000) :
    Calls Try.prog 39 #[.pointer (some ⟨b, 0, none⟩), .string ⟨l.toArray⟩] w fun e w' => e = .returned (.int .u32 (crcOf l)) ∧ TabAt w' b 1 0 1 (stn 8) ∧ w.grownBy w' (some b) := by
  have hmf : ∀ (fn : Fn) (first cap : Array Value) (w : World), (Instr.makeFunc fn first cap).run Try.prog w = .ok (.func fn first cap) w := fun _ _ _ _ => rfl
  go_enter Try.func39, Try.ntmps39
  go_wp2_with fail
  refine (do_any (by exact h)).mono ?_
  rintro e w1 ⟨rfl, hT, hg⟩
  clear h
  have HT1 := Lib.hid hT
  have HG1 := Lib.hid hg
  clear hT hg
  go_wp2_with fail
  go_loopw [5, 17] (fun c i wr => ∃ k C : Nat, k ≤ l.length ∧ i = .int .i64 k ∧ c = .int .u32 C ∧ C = crcL ones (l.take k) ∧ TabAt wr b 1 0 1 (stn 8) ∧ w.grownBy wr (some b)) (fun _ i _ => l.length - (intOf i).toNat)
  case atStart => exact ⟨0, ones, by omega, rfl, rfl, rfl, HT1.out, HG1.out⟩
  case round =>
    obtain ⟨k, C, hk, rfl, rfl, hC, hT, hg⟩ := hrel
    have HC := Lib.hid hC
    have HT := Lib.hid hT
    have HG := Lib.hid hg
    have HF := Lib.hid (show F32 C from hC ▸ crcL_fit ones_fit _)
    clear hC hT hg
    by_cases hlt : k < l.length
    · obtain ⟨c, hc⟩ : ∃ c, l[k]? = some c := ⟨_, List.getElem?_eq_getElem hlt⟩
      have hix := index_at l k c hc
      have hrow := HT.out.row (byte_lt C c)
      have hx := xor_byte C c
      have hX : ((C % 256 ^^^ c.toNat : Nat) : Int) < 256 := by have := byte_lt C c; omega
      have hX0 : (0 : Int) ≤ ((C % 256 ^^^ c.toNat : Nat) : Int) := by omega
      have HS := Lib.hid (sum_code HF.out c)
      have HN := Lib.hid (crcL_next l hc)
      clear hc
      generalize C % 256 ^^^ c.toNat = X at *
      generalize stn 8 X = Y at *
      go_wp2_with fail
      go_quiet (fail)
      go_wp2_with fail
      go_roundw
      case rel => exact ⟨k + 1, crcB C c.toNat, by omega, by go_num, by rw [HS.out], by rw [HN.out, HC.out], HT.out.drewN _, grown_drewN HG.out _⟩
      case measure => simp [intOf]; omega
    · have HN := Lib.hid (not_code HF.out)
      have HL := Lib.hid (show crcOf l = ones - C by rw [crcOf, HC.out, List.take_of_length_le (by omega)])
      go_wp2_with fail
      go_ret
      exact ⟨by rw [HL.out, ← HN.out]; rfl, HT.out, HG.out⟩

set_option maxHeartbeats 400000 in
theorem sum_nil (s : ByteArray) (w : World) : Calls Try.prog 39 #[.pointer none, .string s] w fun e w' => e = .returned (.int .u32 0) ∧ w = w' := by
  go_enter Try.func39, Try.ntmps39
  go_wp2_with fail
  go_ret
  exact ⟨rfl, rfl⟩

theorem half_code {x : Nat} (h : F32 x) : bits .xor .u32 ((x : Int) / 2 % 4294967296) 3988292384 = ((x / 2 ^^^ poly : Nat) : Int) := by
  unfold F32 at h
  rw [show (x : Int) / 2 % 4294967296 = ((x / 2 : Nat) : Int) by omega, show (3988292384 : Int) = ((3988292384 : Nat) : Int) from rfl, u32_xor_nat _ _ (by omega) (by omega)]
  rfl
theorem half_fit {x : Nat} (h : F32 x) : (x : Int) / 2 % 4294967296 = ((x / 2 : Nat) : Int) := by
  unfold F32 at h
  omega
theorem xor_code {C : Nat} (h : F32 C) (c : UInt8) : bits .xor .u32 (C : Int) ((c.toNat : Int) % 4294967296) = ((C ^^^ c.toNat : Nat) : Int) := by
  have := c.toNat_lt
  rw [show (c.toNat : Int) % 4294967296 = (c.toNat : Int) by omega]
  exact u32_xor_nat _ _ h (by omega)

set_option maxRecDepth 100000 in
set_option maxHeartbeats 1000000 in
theorem qsum_any (l : List UInt8) (hl : l.length ≤ 1000000) (w : World) :
    Calls Try.prog 44 #[.string ⟨l.toArray⟩] w fun e w' => e = .returned (.int .u32 (crcOf l)) ∧ w = w' := by
  go_enter Try.func44, Try.ntmps44
  go_wp2_with fail
  go_loop [3, 4] (fun c i => ∃ k C : Nat, k ≤ l.length ∧ i = .int .i64 k ∧ c = .int .u32 C ∧ C = crcL ones (l.take k)) (fun _ i => l.length - (intOf i).toNat)
  case atStart => exact ⟨0, ones, by omega, rfl, rfl, rfl⟩
  case round =>
    obtain ⟨k, C, hk, rfl, rfl, hC⟩ := hrel
    have HC := Lib.hid hC
    have HF := Lib.hid (show F32 C from hC ▸ crcL_fit ones_fit _)
    clear hC
    by_cases hlt : k < l.length
    · obtain ⟨c, hc⟩ : ∃ c, l[k]? = some c := ⟨_, List.getElem?_eq_getElem hlt⟩
      have hix := index_at l k c hc
      have hx := xor_code HF.out c
      have HN := Lib.hid (crcL_next l hc)
      have HX := Lib.hid (show F32 (C ^^^ c.toNat) from xor32 HF.out (by have := c.toNat_lt; unfold F32; omega))
      clear hc
      have HB := Lib.hid (show crcB C c.toNat = stn 8 (C ^^^ c.toNat) from rfl)
      generalize C ^^^ c.toNat = X at *
      go_wp2_with fail
      go_loop [3, 5] (fun c i => ∃ j : Nat, j ≤ 8 ∧ i = .int .i64 j ∧ c = .int .u32 (stn j X : Nat)) (fun _ i => 8 - (intOf i).toNat)
      case atStart => exact ⟨0, by omega, rfl, rfl⟩
      case round =>
        obtain ⟨j, hj, rfl, rfl⟩ := hrel
        by_cases hlj : j < 8
        · have HS := Lib.hid (half_code (stn_fit j HX.out))
          have HH := Lib.hid (half_fit (stn_fit j HX.out))
          have HM := Lib.hid (show stn (j + 1) X = st (stn j X) from stn_snoc j X)
          have HT := Lib.hid (show ∀ x, x % 2 = 1 → st x = (x / 2 ^^^ poly) from fun x h => by rw [st, if_pos h])
          have HE := Lib.hid (show ∀ x, x % 2 ≠ 1 → st x = x / 2 from fun x h => by rw [st, if_neg h])
          generalize stn j X = x at *
          by_cases h2 : x % 2 = 1
          · have HM2 := Lib.hid (HM.out.trans (HT.out x h2))
            have h2 : ((x : Int) % 2 == 1) = true := by simp; omega
            go_wp2_with fail
            go_round
            case rel => exact ⟨j + 1, by omega, by go_num, by rw [HS.out, HM2.out]⟩
            case measure => simp [intOf]; omega
          · have HM2 := Lib.hid (HM.out.trans (HE.out x h2))
            have h2 : ((x : Int) % 2 == 1) = false := by simp; omega
            go_wp2_with fail
            go_round
            case rel => exact ⟨j + 1, by omega, by go_num, by rw [HM2.out, HH.out]⟩
            case measure => simp [intOf]; omega
        · have h8 : j = 8 := by omega
          subst h8
          obtain ⟨v, hv⟩ : ∃ v, v = stn 8 X := ⟨_, rfl⟩
          rw [← hv]
          have HV := Lib.hid hv
          clear hv
          go_wp2_with fail
          go_round
          case rel => exact ⟨k + 1, v, by omega, by go_num, rfl, by rw [HN.out, HV.out, ← HC.out, HB.out]⟩
          case measure => simp [intOf]; omega
    · have HN := Lib.hid (not_code HF.out)
      have HL := Lib.hid (show crcOf l = ones - C by rw [crcOf, HC.out, List.take_of_length_le (by omega)])
      go_wp2_with fail
      go_ret
      exact ⟨by rw [HL.out, ← HN.out]; rfl, rfl⟩
end Go.Proofs.Ytoiaigbagfalmaa
