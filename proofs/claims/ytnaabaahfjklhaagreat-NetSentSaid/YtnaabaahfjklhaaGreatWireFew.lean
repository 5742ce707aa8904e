/- Is a message small enough to be gone over? -/
import Derived.Test.YtnaabaahfjklhaaGreatWireOpen
namespace Go.Proofs.YtnaabaahfjklhaaGreat
open Go.RowKit Go.ChangeShapes Go.WideShapes Go.Joins Go.Deep
set_option linter.unusedVariables false

def fewM (M : MsgV) : Bool := decide (M.op.cron.length ≤ 1000) && (decide (M.cf.chain.length ≤ 40) && decide (M.fires.length ≤ 40))
theorem fewM_iff {M : MsgV} : fewM M = true ↔ M.op.cron.length ≤ 1000 ∧ M.cf.chain.length ≤ 40 ∧ M.fires.length ≤ 40 := by simp [fewM]
theorem msg_cells3 {M : MsgV} (h : M.op.v.length = 8) (v1 v2 : Value) : (msgCells M v1 v2)[20]? = some (.string ⟨M.op.cron.toArray⟩) ∧ (msgCells M v1 v2)[25]? = some v1 ∧ (msgCells M v1 v2)[26]? = some v2 := by
  obtain ⟨k, dst, fn, fl, ep, seq, req, cl, id, un, flag, op, re, rg, rd, cf, fires, life⟩ := M
  obtain ⟨ok, ov, oc⟩ := op
  obtain ⟨a1, a2, a3, a4, a5, a6, a7, a8, rfl⟩ := list8 h
  exact ⟨rfl, rfl, rfl⟩

set_option maxRecDepth 100000 in
set_option maxHeartbeats 1000000 in

theorem qfew_any {w : World} {M : MsgV} {v : Value} (hv : M.At w v) (hop : OpOk M.op) {b : Bool} (hb : fewM M = b) :
    Calls Tryz.prog 16 #[v] w fun en w' => en = .returned (.bool b) ∧ Below w.heap.size w w' := by
  obtain ⟨v1, v2, rfl, ⟨a1, cap1, rfl, hs⟩, ⟨a2, cap2, rfl, hfl, hfs⟩⟩ := hv
  have hl1 := hs.1
  have hl3 := hop.2.2.2
  unfold maxLen at hl1 hfl hl3
  obtain ⟨h20, h25, h26⟩ := msg_cells3 hop.1 (.slice a1 M.cf.chain.length cap1) (.slice a2 M.fires.length cap2)
  generalize msgCells M (.slice a1 M.cf.chain.length cap1) (.slice a2 M.fires.length cap2) = cs at *
  have hM := BlkAt.new w 40 cs
  have hbb := (Below.refl w.heap.size w).alloc (Nat.le_refl _) (.cells cs.toArray 40)
  clear hs hfs
  go_enter Tryz.func16, Tryz.ntmps16
  go_upto_region 1 with (fail)
  change Code.wp _ _ _ _ (w.alloc (.cells cs.toArray 40))
  change BlkAt (w.alloc (.cells cs.toArray 40)) _ _ _ at hM
  generalize w.alloc (.cells cs.toArray 40) = W at *
  obtain ⟨m, hm⟩ : ∃ m, m = w.heap.size := ⟨_, rfl⟩
  rw [← hm] at hM ⊢
  clear hm
  have c20 : W.cell? ⟨m, 20, none⟩ = some (.string ⟨M.op.cron.toArray⟩) := hM.cell h20
  have c25 : W.cell? ⟨m, 25, none⟩ = some (.slice a1 M.cf.chain.length cap1) := hM.cell h25
  have c26 : W.cell? ⟨m, 26, none⟩ = some (.slice a2 M.fires.length cap2) := hM.cell h26
  have HB := Lib.hid hb
  clear hb hop
  by_cases k1 : M.op.cron.length ≤ 1000
  · have k1' : (M.op.cron.length : Int) ≤ 1000 := by omega
    by_cases k2 : M.cf.chain.length ≤ 40
    · have k2' : (M.cf.chain.length : Int) ≤ 40 := by omega
      by_cases k3 : M.fires.length ≤ 40
      · have k3' : (M.fires.length : Int) ≤ 40 := by omega
        have HE := Lib.hid (show fewM M = true from fewM_iff.2 ⟨k1, k2, k3⟩)
        clear k1 k2 k3
        go_wp2_with fail
        go_ret
        exact ⟨by rw [← HB.out, HE.out]; rfl, hbb⟩
      · have k3' : ¬ (M.fires.length : Int) ≤ 40 := by omega
        have HE := Lib.hid (show fewM M = false from by rw [Bool.eq_false_iff]; exact fun h => k3 (fewM_iff.1 h).2.2)
        clear k1 k2 k3
        go_wp2_with fail
        go_ret
        exact ⟨by rw [← HB.out, HE.out]; rfl, hbb⟩
    · have k2' : ¬ (M.cf.chain.length : Int) ≤ 40 := by omega
      have HE := Lib.hid (show fewM M = false from by rw [Bool.eq_false_iff]; exact fun h => k2 (fewM_iff.1 h).2.1)
      clear k1 k2
      go_wp2_with fail
      go_ret
      exact ⟨by rw [← HB.out, HE.out]; rfl, hbb⟩
  · have k1' : ¬ (M.op.cron.length : Int) ≤ 1000 := by omega
    have HE := Lib.hid (show fewM M = false from by rw [Bool.eq_false_iff]; exact fun h => k1 (fewM_iff.1 h).1)
    clear k1
    go_wp2_with fail
    go_ret
    exact ⟨by rw [← HB.out, HE.out]; rfl, hbb⟩
end Go.Proofs.YtnaabaahfjklhaaGreat
