/- The contracts of the document's reader: a text, a place in it, an error. -/
import Derived.Test.YtoiaigbagfalmaaCodecReader
namespace Go.Proofs.Ytoiaigbagfalmaa
open Go.RowKit Go.ChangeShapes Go.WideShapes Go.Joins
set_option linter.unusedVariables false

/-- Block b is the document's reader: the text S, the place a, the error e. -/
def RfAt (w : World) (b : Nat) (S : List UInt8) (a : Nat) (e : Int) : Prop := w.heap[b]? = some (.cells #[.string ⟨S.toArray⟩, .int .i64 a, .int .i64 e] 51 (0, 0))

section
variable {w w' : World} {b : Nat} {S : List UInt8} {a : Nat} {e : Int}
theorem RfAt.lt (h : RfAt w b S a e) : b < w.heap.size := (Array.getElem?_eq_some_iff.1 h).1
theorem RfAt.cell0 (h : RfAt w b S a e) : w.cell? ⟨b, 0, none⟩ = some (.string ⟨S.toArray⟩) := cell_of_row _ _ 0 _ _ _ h
theorem RfAt.cell1 (h : RfAt w b S a e) : w.cell? ⟨b, 1, none⟩ = some (.int .i64 a) := cell_of_row _ _ 1 _ _ _ h
theorem RfAt.cell2 (h : RfAt w b S a e) : w.cell? ⟨b, 2, none⟩ = some (.int .i64 e) := cell_of_row _ _ 2 _ _ _ h
theorem RfAt.free (h : RfAt w b S a e) (i : Nat) : w.frozen? ⟨b, i, none⟩ = false := by unfold RfAt at h; simp [World.frozen?, h]
theorem RfAt.below (h : RfAt w b S a e) (hb : Below w.heap.size w w') : RfAt w' b S a e := (hb.block b h.lt).trans h
theorem RfAt.drew (h : RfAt w b S a e) : RfAt w.drew b S a e := h
theorem RfAt.drewN (h : RfAt w b S a e) (n : Nat) : RfAt (w.drewN n) b S a e := h
theorem RfAt.set1 (h : RfAt w b S a e) (a' : Nat) : RfAt (w.setCell ⟨b, 1, none⟩ (.int .i64 a')) b S a' e := by
  unfold RfAt at h ⊢
  simp [World.setCell, Array.getElem?_modify, h]
theorem RfAt.set2 (h : RfAt w b S a e) (e' : Int) : RfAt (w.setCell ⟨b, 2, none⟩ (.int .i64 e')) b S a e' := by
  unfold RfAt at h ⊢
  simp [World.setCell, Array.getElem?_modify, h]
end

theorem RfAt.grown {w w' : World} {b c : Nat} {S : List UInt8} {a : Nat} {e : Int} (h : RfAt w b S a e) (hg : w.grownBy w' (some c)) (hne : b ≠ c) : RfAt w' b S a e := (hg.block _ h.lt (by simpa using hne)).trans h

set_option maxHeartbeats 400000 in
theorem qfail_any {w : World} {b : Nat} {S : List UInt8} {a : Nat} {e x : Int} (h : RfAt w b S a e) :
    Calls Try.prog 35 #[.pointer (some ⟨b, 0, none⟩), .int .i64 x] w fun en w' => en = .returned (.tuple #[]) ∧ RfAt w' b S a (fst_ e x) ∧ w.grownBy w' (some b) := by
  have hc := h.cell2
  have hf := h.free 2
  by_cases h0 : e = 0
  · subst h0
    have HX := Lib.hid h
    clear h
    go_enter Try.func35, Try.ntmps35
    go_wp2_with fail
    go_end0
    exact ⟨rfl, by rw [fst_, if_pos rfl]; exact HX.out.set2 x, grown_setCell _ _ _ _⟩
  · have HX := Lib.hid h
    clear h
    have H0 := Lib.hid h0
    have h0 : (e == 0) = false := by simpa using h0
    go_enter Try.func35, Try.ntmps35
    go_wp2_with fail
    go_end0
    exact ⟨rfl, by rw [fst_, if_neg H0.out]; exact HX.out, World.grownBy.refl _ _⟩

theorem add_step (acc k c : Nat) (hc : c < 256) (hk : k ≤ 9) (hacc : acc < 128 ^ k) (h9 : k = 9 → c ≤ 1) :
    IntKind.u64.wrap ((acc : Int) + IntKind.u64.wrap ((c : Int) % 128 * 2 ^ (7 * k))) = ((acc + c % 128 * 128 ^ k : Nat) : Int) := by
  have e2 : (128 : Nat) ^ k = 2 ^ (7 * k) := by rw [Nat.pow_mul]
  have hp : (128 : Nat) ^ k ≤ 9223372036854775808 := Nat.le_trans (Nat.pow_le_pow_right (by omega) hk) (by decide)
  have hx : acc + c % 128 * 128 ^ k < 18446744073709551616 := by
    by_cases h : k = 9
    · have := h9 h
      have h1 : c % 128 ≤ 1 := by omega
      have := Nat.mul_le_mul h1 hp
      omega
    · have hp8 : (128 : Nat) ^ k ≤ 72057594037927936 := Nat.le_trans (Nat.pow_le_pow_right (by omega) (show k ≤ 8 by omega)) (by decide)
      have := Nat.mul_le_mul (show c % 128 ≤ 127 by omega) hp8
      omega
  rw [IntKind.wrap_u64, IntKind.wrap_u64]
  have e3 : (c : Int) % 128 = ((c % 128 : Nat) : Int) := by omega
  have e4 : ((c % 128 : Nat) : Int) * 2 ^ (7 * k) = ((c % 128 * 128 ^ k : Nat) : Int) := by rw [e2]; push_cast; rfl
  rw [e3, e4]
  omega

set_option maxRecDepth 10000 in
set_option maxHeartbeats 1000000 in
theorem quint_r_err {w : World} {b : Nat} {S : List UInt8} {a : Nat} {e : Int} (h : RfAt w b S a e) (h0 : e ≠ 0) :
    Calls Try.prog 34 #[.pointer (some ⟨b, 0, none⟩)] w fun en w' => en = .returned (.int .u64 0) ∧ w = w' := by
  have hc2 := h.cell2
  clear h
  have h0 : (e == 0) = false := by simpa using h0
  go_enter Try.func34, Try.ntmps34
  go_wp2_with fail
  go_loopw [3, 4] (fun n i wr => wr = w) (fun _ _ _ => 0)
  case atStart => rfl
  case round =>
    subst hrel
    go_wp2_with fail
    go_ret
    exact ⟨rfl, rfl⟩

set_option maxRecDepth 10000 in
set_option maxHeartbeats 1000000 in
theorem quint_r_ok {w : World} {b : Nat} {S : List UInt8} {a : Nat} (h : RfAt w b S a 0) (hS : S.length ≤ 1000000) (ha : a ≤ S.length) :
    Calls Try.prog 34 #[.pointer (some ⟨b, 0, none⟩)] w fun en w' => en = .returned (.int .u64 (num (S.drop a)).1) ∧ RfAt w' b S (a + (num (S.drop a)).2.1) (num (S.drop a)).2.2 ∧ w.grownBy w' (some b) := by
  have hc0 := h.cell0
  have hc1 := h.cell1
  have hc2 := h.cell2
  have hf := h.free 1
  have HX := Lib.hid h
  clear h
  clear hc0 hc1 hf
  have hlen : (S.drop a).length = S.length - a := by simp
  go_enter Try.func34, Try.ntmps34
  go_wp2_with fail
  go_loopw [3, 4] (fun m i wr => ∃ k acc : Nat, k ≤ 9 ∧ a + k ≤ S.length ∧ i = .int .i64 k ∧ m = .int .u64 acc ∧ acc < 128 ^ k ∧ scan ((S.drop a).drop k) k acc = num (S.drop a) ∧ RfAt wr b S a 0 ∧ w.grownBy wr (some b)) (fun _ i _ => S.length - (intOf i).toNat)
  case atStart => exact ⟨0, 0, by omega, by omega, rfl, rfl, by simp, rfl, HX.out, World.grownBy.refl _ _⟩
  case round =>
    obtain ⟨k, acc, hk, hkl, rfl, rfl, hacc, hs, hR, hg⟩ := hrel
    have HA := Lib.hid hacc
    have HS := Lib.hid hs
    have HG := Lib.hid hg
    have HR := Lib.hid hR
    have hc0 := hR.cell0
    have hc1 := hR.cell1
    have hc2 := hR.cell2
    have hf := hR.free 1
    clear hacc hs hg hR
    by_cases hlt : a + k < S.length
    · obtain ⟨c, hc⟩ : ∃ c, (S.drop a)[k]? = some c := ⟨_, List.getElem?_eq_getElem (by omega)⟩
      have hix := fun w => index_at S (a + k) c (by rw [← hc, List.getElem?_drop]) w
      simp only [Int.natCast_add] at hix
      have hcl : (c.toNat : Int) < 256 := by have := c.toNat_lt; omega
      have HD := Lib.hid (scan_drop hc acc)
      clear hc
      by_cases h9 : k = 9
      · have h9' : ((k : Int) == 9) = true := by simp; omega
        have h0' : (0 : Int) < k := by omega
        have H9 := Lib.hid h9
        clear h9
        by_cases h1 : 1 < (c.toNat : Int)
        · have HN := Lib.hid (show num (S.drop a) = (0, 0, 3) by rw [← HS.out, HD.out, if_pos (.inl ⟨H9.out, by omega⟩)])
          go_wp2_with fail
          go_quiet (fail)
          go_wp2_with fail
          go_quiet (fail)
          go_wp2_with fail
          refine (qfail_any (by exact HR.out.drewN _)).mono ?_
          rintro en w1 ⟨rfl, hR1, hg1⟩
          go_wp2_with fail
          go_ret
          exact ⟨by rw [HN.out]; rfl, by rw [HN.out]; exact hR1, HG.out.trans (drewN_grown hg1)⟩
        · have HO := Lib.hid (add_step acc k c.toNat (by omega) hk HA.out (fun _ => by omega))
          by_cases hz : c.toNat = 0
          · have HN := Lib.hid (show num (S.drop a) = (0, 0, 3) by rw [← HS.out, HD.out, if_pos (.inr ⟨by omega, hz⟩)])
            have hz' : ((c.toNat : Int) == 0) = true := by simp; omega
            have HZ := Lib.hid hz
            clear hz
            go_wp2_with fail
            go_quiet (fail)
            go_wp2_with fail
            go_quiet (fail)
            go_wp2_with fail
            refine (qfail_any (by exact HR.out.drewN _)).mono ?_
            rintro en w1 ⟨rfl, hR1, hg1⟩
            go_wp2_with fail
            go_ret
            exact ⟨by rw [HN.out]; rfl, by rw [HN.out]; exact hR1, HG.out.trans (drewN_grown hg1)⟩
          · have HN := Lib.hid (show num (S.drop a) = (acc + c.toNat % 128 * 128 ^ k, k + 1, 0) by rw [← HS.out, HD.out, if_neg (by omega), if_pos (by omega)])
            have hz' : ((c.toNat : Int) == 0) = false := by simp; omega
            have h128 : (c.toNat : Int) < 128 := by omega
            go_wp2_with fail
            go_quiet (fail)
            go_wp2_with fail
            go_quiet (fail)
            go_wp2_with fail
            go_ret
            exact ⟨by rw [HN.out]; exact ret_int HO.out, by rw [HN.out]; exact (HR.out.drewN _).set1 (a + (k + 1)), HG.out.trans (drewN_grown (grown_setCell _ _ _ _))⟩
      · have HO := Lib.hid (add_step acc k c.toNat (by omega) hk HA.out (fun h => absurd h h9))
        have h9' : ((k : Int) == 9) = false := by simp; omega
        by_cases hz : 0 < k ∧ c.toNat = 0
        · have HN := Lib.hid (show num (S.drop a) = (0, 0, 3) by rw [← HS.out, HD.out, if_pos (.inr hz)])
          have h0 : (0 : Int) < k := by omega
          have hz' : ((c.toNat : Int) == 0) = true := by simp; omega
          have HZ := Lib.hid hz
          clear hz
          go_wp2_with fail
          go_quiet (fail)
          go_wp2_with fail
          go_quiet (fail)
          go_wp2_with fail
          refine (qfail_any (by exact HR.out.drewN _)).mono ?_
          rintro en w1 ⟨rfl, hR1, hg1⟩
          go_wp2_with fail
          go_ret
          exact ⟨by rw [HN.out]; rfl, by rw [HN.out]; exact hR1, HG.out.trans (drewN_grown hg1)⟩
        · by_cases h128 : (c.toNat : Int) < 128
          · have HN := Lib.hid (show num (S.drop a) = (acc + c.toNat % 128 * 128 ^ k, k + 1, 0) by rw [← HS.out, HD.out, if_neg (by omega), if_pos (by omega)])
            by_cases h0 : 0 < k
            · have h0' : (0 : Int) < k := by omega
              have hz' : ((c.toNat : Int) == 0) = false := by simp; omega
              go_wp2_with fail
              go_quiet (fail)
              go_wp2_with fail
              go_quiet (fail)
              go_wp2_with fail
              go_ret
              exact ⟨by rw [HN.out]; exact ret_int HO.out, by rw [HN.out]; exact (HR.out.drewN _).set1 (a + (k + 1)), HG.out.trans (drewN_grown (grown_setCell _ _ _ _))⟩
            · have h0' : (k : Int) ≤ 0 := by omega
              go_wp2_with fail
              go_quiet (fail)
              go_wp2_with fail
              go_quiet (fail)
              go_wp2_with fail
              go_ret
              exact ⟨by rw [HN.out]; exact ret_int HO.out, by rw [HN.out]; exact (HR.out.drewN _).set1 (a + (k + 1)), HG.out.trans (drewN_grown (grown_setCell _ _ _ _))⟩
          · have HN := Lib.hid (show scan ((S.drop a).drop (k + 1)) (k + 1) (acc + c.toNat % 128 * 128 ^ k) = num (S.drop a) by rw [← HS.out, HD.out, if_neg (by omega), if_neg (by omega)])
            have HA' := Lib.hid (acc_next (c := c.toNat) HA.out (by omega))
            by_cases h0 : 0 < k
            · have h0' : (0 : Int) < k := by omega
              have hz' : ((c.toNat : Int) == 0) = false := by simp; omega
              go_wp2_with fail
              go_quiet (fail)
              go_wp2_with fail
              go_quiet (fail)
              go_wp2_with fail
              go_roundw
              case rel => exact ⟨k + 1, _, by omega, by omega, by go_num, by rw [HO.out], HA'.out, HN.out, HR.out.drewN _, grown_drewN HG.out _⟩
              case measure => simp [intOf]; omega
            · have h0' : (k : Int) ≤ 0 := by omega
              go_wp2_with fail
              go_quiet (fail)
              go_wp2_with fail
              go_quiet (fail)
              go_wp2_with fail
              go_roundw
              case rel => exact ⟨k + 1, _, by omega, by omega, by go_num, by rw [HO.out], HA'.out, HN.out, HR.out.drewN _, grown_drewN HG.out _⟩
              case measure => simp [intOf]; omega
    · have HN := Lib.hid (show num (S.drop a) = (0, 0, 4) by rw [← HS.out, List.drop_eq_nil_of_le (by omega)]; rfl)
      go_wp2_with fail
      go_quiet (fail)
      go_wp2_with fail
      refine (qfail_any (by exact HR.out.drewN _)).mono ?_
      rintro en w1 ⟨rfl, hR1, hg1⟩
      go_wp2_with fail
      go_ret
      exact ⟨by rw [HN.out]; rfl, by rw [HN.out]; exact hR1, HG.out.trans (drewN_grown hg1)⟩
end Go.Proofs.Ytoiaigbagfalmaa
