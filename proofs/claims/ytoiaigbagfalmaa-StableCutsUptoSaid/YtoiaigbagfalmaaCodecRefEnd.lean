/- The last contract of the document's reader: a text. -/
import Derived.Test.YtoiaigbagfalmaaCodecRefMore
namespace Go.Proofs.Ytoiaigbagfalmaa
open Go.RowKit Go.ChangeShapes Go.WideShapes Go.Joins
set_option linter.unusedVariables false

set_option maxRecDepth 10000 in
set_option maxHeartbeats 1000000 in
theorem qstrr_good {w : World} {b : Nat} {S : List UInt8} {a : Nat} {most : Int} (h : RfAt w b S a 0) (hS : S.length ≤ 1000000) (ha : a ≤ S.length) (hm : W64 most)
    (hgood : strErr (num (S.drop a)).1 (num (S.drop a)).2.2 ((S.drop a).length - (num (S.drop a)).2.1) most = 0) :
    Calls Try.prog 24 #[.pointer (some ⟨b, 0, none⟩), .int .i64 most] w fun en w' => en = .returned (.string ⟨(((S.drop a).drop (num (S.drop a)).2.1).take (num (S.drop a)).1).toArray⟩) ∧ RfAt w' b S (a + (num (S.drop a)).2.1 + (num (S.drop a)).1) 0 ∧ w.grownBy w' (some b) ∧ a + (num (S.drop a)).2.1 + (num (S.drop a)).1 ≤ S.length := by
  obtain ⟨hlong, hfit, hf3⟩ := num_facts (S.drop a)
  have hc1 := h.cell1
  have hc2 := h.cell2
  have HX := Lib.hid h
  have HMB := Lib.hid hm.bd
  have HNA := Lib.hid (quint_r_ok h hS ha)
  clear hm h
  rw [List.length_drop] at *
  generalize num (S.drop a) = N at *
  obtain ⟨n, long, er⟩ := N
  simp only at hlong hfit hf3 hgood HNA ⊢
  have HF := Lib.hid hfit
  clear hfit
  have h1 : er = 0 := by
    by_cases h1 : er = 0
    · exact h1
    · rw [strErr, if_pos h1] at hgood; omega
  subst h1
  have h2 : 0 ≤ most := by
    by_cases h2 : most < 0
    · rw [strErr, if_neg (by omega), if_pos (.inl h2)] at hgood; omega
    · omega
  have h3 : (n : Int) ≤ most := by
    by_cases h3 : most < n
    · rw [strErr, if_neg (by omega), if_pos (.inr h3)] at hgood; omega
    · omega
  have h4 : n ≤ S.length - a - long := by
    by_cases h4 : S.length - a - long < n
    · rw [strErr, if_neg (by omega), if_neg (by omega), if_pos h4] at hgood; omega
    · omega
  have h5 : (n : Int) ≤ (S.length : Int) - (a + long) := by omega
  have hmw : IntKind.u64.wrap most = most := by rw [IntKind.wrap_u64]; have := HMB.out; omega
  have hw : IntKind.u64.wrap ((S.length : Int) - (a + long)) = (S.length : Int) - (a + long) := by rw [IntKind.wrap_u64]; omega
  have h6 : a + long + n ≤ S.length := by omega
  have HE := Lib.hid (extract_mid S (a + long) n)
  have HDD := Lib.hid (show (S.drop a).drop long = S.drop (a + long) by rw [List.drop_drop])
  clear hf3 hgood
  go_enter Try.func24, Try.ntmps24
  go_wp2_with fail
  refine HNA.out.mono ?_
  rintro en w1 ⟨rfl, hR, hg⟩
  have hR : RfAt w1 b S (a + long) 0 := hR
  have HR := Lib.hid hR
  have HG := Lib.hid hg
  have hc0 := hR.cell0
  have hc1 := hR.cell1
  have hc2 := hR.cell2
  have hf := hR.free 1
  simp only [Int.natCast_add] at hc1
  clear hR hg
  go_wp2_with fail
  go_quiet (fail)
  go_wp2_with fail
  go_quiet (fail)
  go_wp2_with fail
  go_ret
  exact ⟨by rw [HDD.out, ← HE.out]; rfl, ((HR.out.drewN _).set1 (a + long + n)).drewN _, grown_drewN (HG.out.trans (drewN_grown (grown_setCell _ _ _ _))) _, h6⟩

theorem qstrr_any {w : World} {b : Nat} {S : List UInt8} {a : Nat} {e most : Int} (h : RfAt w b S a e) (hS : S.length ≤ 1000000) (ha : a ≤ S.length) (hm : W64 most) :
    Calls Try.prog 24 #[.pointer (some ⟨b, 0, none⟩), .int .i64 most] w fun en w' => en = .returned (.string ⟨(rdS (S.drop a) e most).1.toArray⟩) ∧ (∃ a', a' ≤ S.length ∧ S.drop a' = (rdS (S.drop a) e most).2.1 ∧ RfAt w' b S a' (rdS (S.drop a) e most).2.2) ∧ w.grownBy w' (some b) := by
  unfold rdS
  by_cases h0 : e = 0
  · subst h0
    rw [if_neg (by omega)]
    by_cases hb : strErr (num (S.drop a)).1 (num (S.drop a)).2.2 ((S.drop a).length - (num (S.drop a)).2.1) most = 0
    · rw [if_neg (by omega)]
      refine (qstrr_good h hS ha hm hb).mono ?_
      rintro en w' ⟨rfl, hR, hg, hle⟩
      exact ⟨rfl, ⟨_, hle, by show List.drop _ S = List.drop _ (List.drop a S); rw [List.drop_drop, Nat.add_assoc], hR⟩, hg⟩
    · rw [if_pos hb]
      refine (qstrr_bad h hS ha hm hb).mono ?_
      rintro en w' ⟨rfl, hR, hg⟩
      exact ⟨rfl, ⟨_, ha, rfl, hR⟩, hg⟩
  · rw [if_pos h0]
    refine (qstrr_err h h0).mono ?_
    rintro en w' ⟨rfl, hR, hg⟩
    exact ⟨rfl, ⟨_, ha, rfl, hR⟩, hg⟩
end Go.Proofs.Ytoiaigbagfalmaa
