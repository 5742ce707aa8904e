/- More contracts of the document's reader: a number with a sign, a text. -/
import Derived.Test.YtoiaigbagfalmaaCodecRef
namespace Go.Proofs.Ytoiaigbagfalmaa
open Go.RowKit Go.ChangeShapes Go.WideShapes Go.Joins
set_option linter.unusedVariables false

theorem quintr_any {w : World} {b : Nat} {S : List UInt8} {a : Nat} {e : Int} (h : RfAt w b S a e) (hS : S.length ≤ 1000000) (ha : a ≤ S.length) :
    Calls Try.prog 34 #[.pointer (some ⟨b, 0, none⟩)] w fun en w' => en = .returned (.int .u64 (rdU (S.drop a) e).1) ∧ (∃ a', a' ≤ S.length ∧ S.drop a' = (rdU (S.drop a) e).2.1 ∧ RfAt w' b S a' (rdU (S.drop a) e).2.2) ∧ w.grownBy w' (some b) := by
  by_cases h0 : e = 0
  · subst h0
    refine (quint_r_ok h hS ha).mono ?_
    rintro en w' ⟨rfl, hR, hg⟩
    rw [rdU, if_pos rfl]
    have := (num_facts (S.drop a)).1
    rw [List.length_drop] at this
    exact ⟨rfl, ⟨_, by omega, by rw [List.drop_drop], hR⟩, hg⟩
  · refine (quint_r_err h h0).mono ?_
    rintro en w' ⟨rfl, rfl⟩
    rw [rdU, if_neg h0]
    exact ⟨rfl, ⟨a, ha, rfl, h⟩, World.grownBy.refl _ _⟩

theorem zag_ref (n : Nat) (hn : F64 n) : n % 2 = 0 ∧ zag n = wrap64 (IntKind.u64.wrap ((n : Int) / 2)) ∨ n % 2 ≠ 0 ∧ zag n = wrap64 (wrap64 (-wrap64 (IntKind.u64.wrap ((n : Int) / 2))) - 1) := by
  unfold F64 at hn
  unfold zag
  have e2 : wrap64 (IntKind.u64.wrap ((n : Int) / 2)) = ((n / 2 : Nat) : Int) := by
    rw [IntKind.wrap_u64, IntWalk.wrap64_in _ ⟨by omega, by omega⟩]
    omega
  by_cases h : n % 2 = 0
  · exact .inl ⟨h, by rw [if_pos h, e2]⟩
  · refine .inr ⟨h, ?_⟩
    rw [if_neg h, e2, IntWalk.wrap64_in (-_) ⟨by omega, by omega⟩, IntWalk.wrap64_in _ ⟨by omega, by omega⟩]

set_option maxRecDepth 10000 in
set_option maxHeartbeats 1000000 in
theorem qstrr_err {w : World} {b : Nat} {S : List UInt8} {a : Nat} {e most : Int} (h : RfAt w b S a e) (h0 : e ≠ 0) :
    Calls Try.prog 24 #[.pointer (some ⟨b, 0, none⟩), .int .i64 most] w fun en w' => en = .returned (.string ⟨([] : List UInt8).toArray⟩) ∧ RfAt w' b S a e ∧ w.grownBy w' (some b) := by
  have hc1 := h.cell1
  have hc2 := h.cell2
  have HX := Lib.hid h
  have H0 := Lib.hid h0
  clear h
  have h0 : (e == 0) = false := by simpa using h0
  go_enter Try.func24, Try.ntmps24
  go_wp2_with fail
  refine (quint_r_err (by exact HX.out) H0.out).mono ?_
  rintro en w' ⟨rfl, rfl⟩
  go_wp2_with fail
  go_quiet (fail)
  go_wp2_with fail
  go_ret
  exact ⟨rfl, HX.out.drewN _, grown_drewN (World.grownBy.refl _ _) _⟩

set_option maxRecDepth 10000 in
set_option maxHeartbeats 1000000 in
theorem qstrr_bad {w : World} {b : Nat} {S : List UInt8} {a : Nat} {most : Int} (h : RfAt w b S a 0) (hS : S.length ≤ 1000000) (ha : a ≤ S.length) (hm : W64 most)
    (hbad : strErr (num (S.drop a)).1 (num (S.drop a)).2.2 ((S.drop a).length - (num (S.drop a)).2.1) most ≠ 0) :
    Calls Try.prog 24 #[.pointer (some ⟨b, 0, none⟩), .int .i64 most] w fun en w' => en = .returned (.string ⟨([] : List UInt8).toArray⟩) ∧ RfAt w' b S a (strErr (num (S.drop a)).1 (num (S.drop a)).2.2 ((S.drop a).length - (num (S.drop a)).2.1) most) ∧ w.grownBy w' (some b) := by
  obtain ⟨hlong, hfit, hf3⟩ := num_facts (S.drop a)
  have hc1 := h.cell1
  have hc2 := h.cell2
  have HX := Lib.hid h
  have HMB := Lib.hid hm.bd
  have HNA := Lib.hid (quint_r_ok h hS ha)
  clear hm h
  rw [List.length_drop] at *
  generalize num (S.drop a) = N at *
  obtain ⟨n, long, er⟩ := N
  simp only at hlong hfit hf3 hbad HNA ⊢
  have HF := Lib.hid hfit
  clear hfit
  by_cases h1 : er = 0
  · subst h1
    have hpos : 0 < long := by omega
    clear hf3
    by_cases h2 : most < 0
    · have HE := Lib.hid (show strErr n 0 (S.length - a - long) most = 15 by simp [strErr, h2])
      clear hbad
      go_enter Try.func24, Try.ntmps24
      go_wp2_with fail
      refine HNA.out.mono ?_
      rintro en w1 ⟨rfl, hR, hg⟩
      have hR : RfAt w1 b S (a + long) 0 := hR
      have HR := Lib.hid hR
      have HG := Lib.hid hg
      have hc0 := hR.cell0
      have hc1 := hR.cell1
      have hc2 := hR.cell2
      have hf := hR.free 1
      simp only [Int.natCast_add] at hc1
      clear hR hg
      go_wp2_with fail
      refine (qfail_any (by exact HR.out.set1 a)).mono ?_
      rintro en w2 ⟨rfl, hR2, hg2⟩
      rw [show fst_ 0 15 = 15 by rfl] at hR2
      have hc2 := hR2.cell2
      have HR2 := Lib.hid hR2
      clear hR2
      go_wp2_with fail
      go_quiet (fail)
      go_wp2_with fail
      go_ret
      rw [HE.out]
      exact ⟨rfl, HR2.out.drewN _, grown_drewN (HG.out.trans ((grown_setCell _ _ _ _).trans hg2)) _⟩
    · have h2 : 0 ≤ most := by omega
      have hmw : IntKind.u64.wrap most = most := by rw [IntKind.wrap_u64]; have := HMB.out; omega
      by_cases h3 : most < n
      · have HE := Lib.hid (show strErr n 0 (S.length - a - long) most = 15 by simp [strErr, h3])
        clear hbad
        go_enter Try.func24, Try.ntmps24
        go_wp2_with fail
        refine HNA.out.mono ?_
        rintro en w1 ⟨rfl, hR, hg⟩
        have hR : RfAt w1 b S (a + long) 0 := hR
        have HR := Lib.hid hR
        have HG := Lib.hid hg
        have hc0 := hR.cell0
        have hc1 := hR.cell1
        have hc2 := hR.cell2
        have hf := hR.free 1
        simp only [Int.natCast_add] at hc1
        clear hR hg
        go_wp2_with fail
        refine (qfail_any (by exact HR.out.set1 a)).mono ?_
        rintro en w2 ⟨rfl, hR2, hg2⟩
        rw [show fst_ 0 15 = 15 by rfl] at hR2
        have hc2 := hR2.cell2
        have HR2 := Lib.hid hR2
        clear hR2
        go_wp2_with fail
        go_quiet (fail)
        go_wp2_with fail
        go_ret
        rw [HE.out]
        exact ⟨rfl, HR2.out.drewN _, grown_drewN (HG.out.trans ((grown_setCell _ _ _ _).trans hg2)) _⟩
      · have h4 : S.length - a - long < n := by
          by_cases h4 : S.length - a - long < n
          · exact h4
          · exact absurd (by simp [strErr, h3, h4]; omega) hbad
        have HE := Lib.hid (show strErr n 0 (S.length - a - long) most = 4 by simp [strErr, h3, h4]; omega)
        have h3 : (n : Int) ≤ most := by omega
        have hw : IntKind.u64.wrap ((S.length : Int) - (a + long)) = (S.length : Int) - (a + long) := by rw [IntKind.wrap_u64]; omega
        have h4 : (S.length : Int) - (a + long) < n := by omega
        clear hbad
        go_enter Try.func24, Try.ntmps24
        go_wp2_with fail
        refine HNA.out.mono ?_
        rintro en w1 ⟨rfl, hR, hg⟩
        have hR : RfAt w1 b S (a + long) 0 := hR
        have HR := Lib.hid hR
        have HG := Lib.hid hg
        have hc0 := hR.cell0
        have hc1 := hR.cell1
        have hc2 := hR.cell2
        have hf := hR.free 1
        simp only [Int.natCast_add] at hc1
        clear hR hg
        go_wp2_with fail
        go_quiet (fail)
        go_wp2_with fail
        refine (qfail_any (by exact (HR.out.drewN _).set1 a)).mono ?_
        rintro en w2 ⟨rfl, hR2, hg2⟩
        rw [show fst_ 0 4 = 4 by rfl] at hR2
        have hc2 := hR2.cell2
        have HR2 := Lib.hid hR2
        clear hR2
        go_wp2_with fail
        go_ret
        rw [HE.out]
        exact ⟨rfl, HR2.out, HG.out.trans ((drewN_grown (grown_setCell _ _ _ _)).trans hg2)⟩
  · have HE := Lib.hid (show strErr n er (S.length - a - long) most = er by simp [strErr, h1])
    have hlong0 : long = 0 := by omega
    subst hlong0
    have h1 : ((er : Int) == 0) = false := by simp; omega
    clear hbad
    go_enter Try.func24, Try.ntmps24
    go_wp2_with fail
    refine HNA.out.mono ?_
    rintro en w1 ⟨rfl, hR, hg⟩
    have HR := Lib.hid hR
    have HG := Lib.hid hg
    have hc0 := hR.cell0
    have hc1 := hR.cell1
    have hc2 := hR.cell2
    have hf := hR.free 1
    simp only [Int.natCast_add] at hc1
    clear hR hg
    go_wp2_with fail
    go_quiet (fail)
    go_wp2_with fail
    go_ret
    rw [HE.out]
    exact ⟨rfl, HR.out.drewN _, grown_drewN HG.out _⟩
end Go.Proofs.Ytoiaigbagfalmaa
