/- Whether two messages are the same. -/
import Derived.Test.YtnaabaahfjklhaaGreatWireWrite
import Derived.Test.YtnaabaahfjklhaaGreatCfgSame
import Derived.Test.YtnaabaahfjklhaaGreatKOp2
namespace Go.Proofs.YtnaabaahfjklhaaGreat
open Go.RowKit Go.ChangeShapes Go.WideShapes Go.Joins Go.Deep
set_option linter.unusedVariables false

theorem ne_atG {α : Type} {L M : List α} {k : Nat} {s t : α} (hs : L[k]? = some s) (ht : M[k]? = some t) (h : s ≠ t) : L ≠ M := fun e => h (by rw [e, ht] at hs; exact (Option.some.inj hs).symm)
theorem eq_allG {α : Type} {L M : List α} (hl : L.length = M.length) (h : ∀ j s, j < L.length → L[j]? = some s → M[j]? = some s) : L = M := by
  apply List.ext_getElem? fun i => ?_
  rcases Nat.lt_or_ge i L.length with hi | hi
  · rw [List.getElem?_eq_getElem hi, h i _ hi (List.getElem?_eq_getElem hi)]
  · rw [List.getElem?_eq_none hi, List.getElem?_eq_none (by omega)]
set_option maxRecDepth 100000 in
set_option maxHeartbeats 1000000 in
theorem fire_neq (a0 a1 a2 a3 a4 a5 b0 b1 b2 b3 b4 b5 : Int) (w : World) : (Go.binOp .neq 99 (.agg #[.int .i64 a0, .int .i64 a1, .int .i64 a2, .int .i64 a3, .int .i64 a4, .int .i64 a5]) (.agg #[.int .i64 b0, .int .i64 b1, .int .i64 b2, .int .i64 b3, .int .i64 b4, .int .i64 b5])).run Tryz.prog w = .ok (.bool (!(decide ((⟨a0, a1, a2, a3, a4, a5⟩ : FireV) = ⟨b0, b1, b2, b3, b4, b5⟩)))) w := by
  by_cases e0 : a0 = b0
  · subst e0
    by_cases e1 : a1 = b1
    · subst e1
      by_cases e2 : a2 = b2
      · subst e2
        by_cases e3 : a3 = b3
        · subst e3
          by_cases e4 : a4 = b4
          · subst e4
            by_cases e5 : a5 = b5
            · subst e5
              rw [decide_eq_true rfl]
              go_simp
            · rw [decide_eq_false (by simp [e5])]
              have h : (a5 == b5) = false := by simpa using e5
              go_simp
          · rw [decide_eq_false (by simp [e4])]
            have h : (a4 == b4) = false := by simpa using e4
            go_simp
        · rw [decide_eq_false (by simp [e3])]
          have h : (a3 == b3) = false := by simpa using e3
          go_simp
      · rw [decide_eq_false (by simp [e2])]
        have h : (a2 == b2) = false := by simpa using e2
        go_simp
    · rw [decide_eq_false (by simp [e1])]
      have h : (a1 == b1) = false := by simpa using e1
      go_simp
  · rw [decide_eq_false (by simp [e0])]
    have h : (a0 == b0) = false := by simpa using e0
    go_simp
set_option maxRecDepth 100000 in
set_option maxHeartbeats 1000000 in
theorem reply_eql (a0 a1 a2 b0 b1 b2 : Int) (w : World) : (Go.binOp .eql 34 (.agg #[.int .i64 a0, .int .i64 a1, .int .i64 a2]) (.agg #[.int .i64 b0, .int .i64 b1, .int .i64 b2])).run Tryz.prog w = .ok (.bool (decide (a0 = b0 ∧ a1 = b1 ∧ a2 = b2))) w := by
  by_cases e0 : a0 = b0
  · subst e0
    by_cases e1 : a1 = b1
    · subst e1
      by_cases e2 : a2 = b2
      · subst e2
        rw [decide_eq_true (by simp)]
        go_simp
      · rw [decide_eq_false (by simp [e2])]
        have h : (a2 == b2) = false := by simpa using e2
        go_simp
    · rw [decide_eq_false (by simp [e1])]
      have h : (a1 == b1) = false := by simpa using e1
      go_simp
  · rw [decide_eq_false (by simp [e0])]
    have h : (a0 == b0) = false := by simpa using e0
    go_simp
set_option maxRecDepth 100000 in
set_option maxHeartbeats 2000000 in
theorem fequal_any {w : World} {v u : Value} {L M : List FireV} (hv : FiresAt w v L) (hu : FiresAt w u M) :
    Calls Tryz.prog 66 #[v, u] w fun en w' => en = .returned (.bool (decide (L = M))) ∧ ∃ m, w' = w.drewN m := by
  obtain ⟨a, cap, rfl, hlen, hcell⟩ := hv
  obtain ⟨a2, cap2, rfl, hlen2, hcell2⟩ := hu
  unfold maxLen at hlen hlen2
  by_cases hl : L.length = M.length
  · go_enter Tryz.func66, Tryz.ntmps66
    have hl' : (L.length : Int) = (M.length : Int) := by omega
    go_wp2_with fail
    go_loopw [5, 13] (fun _ i wr => ∃ k m : Nat, k ≤ L.length ∧ i = .int .i64 k ∧ wr = w.drewN m ∧ Aside (∀ j s, j < k → L[j]? = some s → M[j]? = some s)) (fun _ i _ => L.length - (intOf i).toNat)
    case atStart => exact ⟨0, 0, Nat.zero_le _, rfl, rfl, fun j t hj => absurd hj (Nat.not_lt_zero _)⟩
    case round =>
      obtain ⟨k, m, hk, rfl, rfl, A⟩ := hrel
      by_cases hlt : k < L.length
      · obtain ⟨b, off, rfl, hab, hc⟩ := hcell (by omega)
        obtain ⟨b2, off2, rfl, hab2, hc2⟩ := hcell2 (by omega)
        obtain ⟨s, hs⟩ : ∃ s, L[k]? = some s := ⟨_, List.getElem?_eq_getElem hlt⟩
        obtain ⟨t, ht⟩ : ∃ t, M[k]? = some t := ⟨_, List.getElem?_eq_getElem (by omega)⟩
        have cs := hc k s hs
        have ct := hc2 k t ht
        obtain ⟨x0, x1, x2, x3, x4, x5⟩ := s
        obtain ⟨y0, y1, y2, y3, y4, y5⟩ := t
        have s0 := cs 0 x0 rfl
        have t0 := ct 0 y0 rfl
        have s1 := cs 1 x1 rfl
        have t1 := ct 1 y1 rfl
        have s2 := cs 2 x2 rfl
        have t2 := ct 2 y2 rfl
        have s3 := cs 3 x3 rfl
        have t3 := ct 3 y3 rfl
        have s4 := cs 4 x4 rfl
        have t4 := ct 4 y4 rfl
        have s5 := cs 5 x5 rfl
        have t5 := ct 5 y5 rfl
        simp only [Nat.add_zero] at s0 t0
        have hq := fun w => fire_neq x0 x1 x2 x3 x4 x5 y0 y1 y2 y3 y4 y5 w
        clear cs ct
        have HS := Lib.hid hs
        have HT := Lib.hid ht
        have hlt2 : k < M.length := by omega
        clear hs ht hc hc2 hcell hcell2
        by_cases hp : (⟨x0, x1, x2, x3, x4, x5⟩ : FireV) = ⟨y0, y1, y2, y3, y4, y5⟩
        · rw [decide_eq_true hp] at hq
          have HP := Lib.hid hp
          clear hp
          go_wp2_with fail
          go_quiet (fail)
          go_wp2_with fail
          go_roundw
          case rel => exact ⟨k + 1, m + nq, by omega, by go_num, rfl, fun j t hj hjt => by
            rcases Nat.lt_or_ge j k with h | h
            · exact A.out j t h hjt
            · obtain rfl : j = k := by omega
              rw [HS.out] at hjt
              obtain rfl := Option.some.inj hjt
              rw [HT.out, HP.out]⟩
          case measure => simp [intOf]; omega
        · rw [decide_eq_false hp] at hq
          have HE := Lib.hid (show decide (L = M) = false from decide_eq_false (ne_atG HS.out HT.out hp))
          clear hp
          go_wp2_with fail
          go_quiet (fail)
          go_wp2_with fail
          go_ret
          exact ⟨by rw [HE.out]; rfl, m + nq, by rw [World.drewN_drewN]⟩
      · have HE := Lib.hid (show decide (L = M) = true from decide_eq_true (eq_allG hl fun j s hj => A.out j s (by omega)))
        go_wp2_with fail
        go_ret
        exact ⟨by rw [HE.out]; rfl, m, rfl⟩
  · have HE := Lib.hid (show decide (L = M) = false from decide_eq_false fun e => hl (by rw [e]))
    have hl' : ¬ (L.length : Int) = (M.length : Int) := by omega
    have hb1 : ((L.length : Int) == (M.length : Int)) = false := by simpa using hl'
    have hb2 : ((L.length : Int) != (M.length : Int)) = true := by simpa using hl'
    go_enter Tryz.func66, Tryz.ntmps66
    go_wp2_with fail
    go_ret
    exact ⟨by rw [HE.out]; rfl, 0, rfl⟩
end Go.Proofs.YtnaabaahfjklhaaGreat
