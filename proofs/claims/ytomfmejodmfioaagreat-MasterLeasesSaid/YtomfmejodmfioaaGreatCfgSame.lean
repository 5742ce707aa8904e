/- Equal, same, Same. -/
import Derived.Test.YtomfmejodmfioaaGreatKCfgA
namespace Go.Proofs.YtomfmejodmfioaaGreat
open Go.RowKit Go.ChangeShapes Go.WideShapes Go.Joins
set_option linter.unusedVariables false

theorem ne_at {L M : List SeatV} {k : Nat} {s t : SeatV} (hs : L[k]? = some s) (ht : M[k]? = some t) (h : s ≠ t) : L ≠ M := fun e => h (by rw [e, ht] at hs; exact (Option.some.inj hs).symm)
theorem eq_all {L M : List SeatV} (hl : L.length = M.length) (h : ∀ j s, j < L.length → L[j]? = some s → M[j]? = some s) : L = M := by
  apply List.ext_getElem? fun i => ?_
  rcases Nat.lt_or_ge i L.length with hi | hi
  · rw [List.getElem?_eq_getElem hi, h i _ hi (List.getElem?_eq_getElem hi)]
  · rw [List.getElem?_eq_none hi, List.getElem?_eq_none (by omega)]

set_option maxRecDepth 100000 in
set_option maxHeartbeats 2000000 in
theorem equal_any {w : World} {v u : Value} {L M : List SeatV} (hv : ChainAt w v L) (hu : ChainAt w u M) :
    Calls Tryz.prog 42 #[v, u] w fun en w' => en = .returned (.bool (decide (L = M))) ∧ ∃ m, w' = w.drewN m := by
  obtain ⟨a, cap, rfl, hlen, hok, hcell⟩ := hv
  obtain ⟨a2, cap2, rfl, hlen2, hok2, hcell2⟩ := hu
  unfold maxLen at hlen hlen2
  by_cases hl : L.length = M.length
  · go_enter Tryz.func42, Tryz.ntmps42
    have hl' : (L.length : Int) = (M.length : Int) := by omega
    go_wp2_with fail
    go_loopw [5, 13] (fun _ i wr => ∃ k m : Nat, k ≤ L.length ∧ i = .int .i64 k ∧ wr = w.drewN m ∧ Aside (∀ j s, j < k → L[j]? = some s → M[j]? = some s)) (fun _ i _ => L.length - (intOf i).toNat)
    case atStart => exact ⟨0, 0, Nat.zero_le _, rfl, rfl, fun j t hj => absurd hj (Nat.not_lt_zero _)⟩
    case round =>
      obtain ⟨k, m, hk, rfl, rfl, A⟩ := hrel
      by_cases hlt : k < L.length
      · obtain ⟨b, off, rfl, hab, hc⟩ := hcell (by omega)
        obtain ⟨b2, off2, rfl, hab2, hc2⟩ := hcell2 (by omega)
        obtain ⟨s, hs⟩ : ∃ s, L[k]? = some s := ⟨_, List.getElem?_eq_getElem hlt⟩
        obtain ⟨t, ht⟩ : ∃ t, M[k]? = some t := ⟨_, List.getElem?_eq_getElem (by omega)⟩
        obtain ⟨s0, s1, s2⟩ := hc k s hs
        obtain ⟨t0, t1, t2⟩ := hc2 k t ht
        obtain ⟨x, y, z⟩ := s
        obtain ⟨x', y', z'⟩ := t
        simp only at s0 s1 s2 t0 t1 t2
        have hq := fun w => seat_neq x y x' y' z z' w
        have HS := Lib.hid hs
        have HT := Lib.hid ht
        have hlt2 : k < M.length := by omega
        clear hs ht hc hc2 hcell hcell2
        by_cases hp : (⟨x, y, z⟩ : SeatV) = ⟨x', y', z'⟩
        · rw [decide_eq_true hp] at hq
          have HP := Lib.hid hp
          clear hp
          go_wp2_with fail
          go_quiet (fail)
          go_wp2_with fail
          go_roundw
          case rel => exact ⟨k + 1, m + nq, by omega, by go_num, rfl, fun j t hj hjt => by
            rcases Nat.lt_or_ge j k with h | h
            · exact A.out j t h hjt
            · obtain rfl : j = k := by omega
              rw [HS.out] at hjt
              obtain rfl := Option.some.inj hjt
              rw [HT.out, HP.out]⟩
          case measure => simp [intOf]; omega
        · rw [decide_eq_false hp] at hq
          have HE := Lib.hid (show decide (L = M) = false from decide_eq_false (ne_at HS.out HT.out hp))
          clear hp
          go_wp2_with fail
          go_quiet (fail)
          go_wp2_with fail
          go_ret
          exact ⟨by rw [HE.out]; rfl, m + nq, by rw [World.drewN_drewN]⟩
      · have HE := Lib.hid (show decide (L = M) = true from decide_eq_true (eq_all hl fun j s hj => A.out j s (by omega)))
        go_wp2_with fail
        go_ret
        exact ⟨by rw [HE.out]; rfl, m, rfl⟩
  · have HE := Lib.hid (show decide (L = M) = false from decide_eq_false fun e => hl (by rw [e]))
    have hl' : ¬ (L.length : Int) = (M.length : Int) := by omega
    have hb1 : ((L.length : Int) == (M.length : Int)) = false := by simpa using hl'
    have hb2 : ((L.length : Int) != (M.length : Int)) = true := by simpa using hl'
    go_enter Tryz.func42, Tryz.ntmps42
    go_wp2_with fail
    go_ret
    exact ⟨by rw [HE.out]; rfl, 0, rfl⟩

set_option maxRecDepth 100000 in
set_option maxHeartbeats 2000000 in
theorem csame_any {w : World} {c d : Nat} {e f : Int} {v u : Value} {L M : List SeatV} (hc : BlkAt w c 35 [.int .i64 e, v]) (hd : BlkAt w d 35 [.int .i64 f, u]) (hv : ChainAt w v L) (hu : ChainAt w u M) :
    Calls Tryz.prog 35 #[.pointer (some ⟨c, 0, none⟩), .pointer (some ⟨d, 0, none⟩)] w fun en w' => en = .returned (.bool (e == f && decide (L = M))) ∧ ∃ m, w' = w.drewN m := by
  obtain ⟨a, cap, rfl, hlen, hok, hcell⟩ := hv
  obtain ⟨a2, cap2, rfl, hlen2, hok2, hcell2⟩ := hu
  have HV := Lib.hid (show ChainAt w (.slice a L.length cap) L from ⟨a, cap, rfl, hlen, hok, hcell⟩)
  have HU := Lib.hid (show ChainAt w (.slice a2 M.length cap2) M from ⟨a2, cap2, rfl, hlen2, hok2, hcell2⟩)
  clear hlen hok hcell hlen2 hok2 hcell2
  have c0 : w.cell? ⟨c, 0, none⟩ = some (.int .i64 e) := hc.cell rfl
  have c1 : w.cell? ⟨c, 1, none⟩ = some (.slice a L.length cap) := hc.cell rfl
  have d0 : w.cell? ⟨d, 0, none⟩ = some (.int .i64 f) := hd.cell rfl
  have d1 : w.cell? ⟨d, 1, none⟩ = some (.slice a2 M.length cap2) := hd.cell rfl
  clear hc hd
  by_cases he : e = f
  · subst he
    have hee : (e == e) = true := by simp
    go_enter Tryz.func35, Tryz.ntmps35
    go_wp2_with fail
    go_quiet (first | (go_at_call 42; exact Calls.quiet_of (equal_any (HV.out.drewN _) (HU.out.drewN _))))
    go_wp2_with fail
    go_ret
    exact ⟨by first | rfl | simp, nq, rfl⟩
  · have hee : (e == f) = false := by simpa using he
    have HE := Lib.hid (show (e == f && decide (L = M)) = false by rw [hee]; rfl)
    clear he
    go_enter Tryz.func35, Tryz.ntmps35
    go_wp2_with fail
    go_quiet (fail)
    go_wp2_with fail
    go_ret
    exact ⟨by rw [HE.out]; rfl, nq, rfl⟩

set_option maxRecDepth 100000 in
set_option maxHeartbeats 2000000 in
theorem qcsame_any {w : World} {e f : Int} {v u : Value} {L M : List SeatV} (hv : ChainAt w v L) (hu : ChainAt w u M) :
    Calls Tryz.prog 17 #[.agg #[.int .i64 e, v], .agg #[.int .i64 f, u]] w fun en w' => en = .returned (.bool (e == f && decide (L = M))) ∧ Below w.heap.size w w' := by
  obtain ⟨a, cap, rfl, hs1⟩ := hv
  obtain ⟨a2, cap2, rfl, hs2⟩ := hu
  have hlen := hs1.1
  have hlen2 := hs2.1
  unfold maxLen at hlen hlen2
  go_enter Tryz.func17, Tryz.ntmps17
  go_upto_region 1 with (fail)
  have hA : BlkAt ((w.alloc (.cells #[.int .i64 e, .slice a L.length cap] 35)).alloc (.cells #[.int .i64 f, .slice a2 M.length cap2] 35)) w.heap.size 35 [.int .i64 e, .slice a L.length cap] := (BlkAt.new w 35 [.int .i64 e, .slice a L.length cap]).alloc _
  have hB : BlkAt ((w.alloc (.cells #[.int .i64 e, .slice a L.length cap] 35)).alloc (.cells #[.int .i64 f, .slice a2 M.length cap2] 35)) (w.heap.size + 1) 35 [.int .i64 f, .slice a2 M.length cap2] := BlkAt.newAt (by simp) 35 [.int .i64 f, .slice a2 M.length cap2]
  have hb : Below w.heap.size w ((w.alloc (.cells #[.int .i64 e, .slice a L.length cap] 35)).alloc (.cells #[.int .i64 f, .slice a2 M.length cap2] 35)) := ((Below.refl w.heap.size w).alloc (Nat.le_refl _) _).alloc (by simp) _
  have hs1 := hs1.below hb rfl
  have hs2 := hs2.below hb rfl
  change Code.wp _ _ _ _ ((w.alloc (.cells #[.int .i64 e, .slice a L.length cap] 35)).alloc (.cells #[.int .i64 f, .slice a2 M.length cap2] 35))
  generalize (w.alloc (.cells #[.int .i64 e, .slice a L.length cap] 35)).alloc (.cells #[.int .i64 f, .slice a2 M.length cap2] 35) = W at *
  generalize w.heap.size + 1 = D at *
  have c0 : W.cell? ⟨w.heap.size, 0, none⟩ = some (.int .i64 e) := hA.cell rfl
  have c1 : W.cell? ⟨w.heap.size, 1, none⟩ = some (.slice a L.length cap) := hA.cell rfl
  have d0 : W.cell? ⟨D, 0, none⟩ = some (.int .i64 f) := hB.cell rfl
  have d1 : W.cell? ⟨D, 1, none⟩ = some (.slice a2 M.length cap2) := hB.cell rfl
  have hcell := hs1.2.2
  have hcell2 := hs2.2.2
  clear hA hB hs1 hs2
  by_cases he : e = f
  · subst he
    have hee : (e == e) = true := by simp
    have hen : (e != e) = false := by simp
    by_cases hl : L.length = M.length
    · have hl' : (L.length : Int) = (M.length : Int) := by omega
      have hb1 : ((L.length : Int) != (M.length : Int)) = false := by simpa using hl'
      go_wp2_with fail
      go_loopw [5] (fun i wr => ∃ k m : Nat, k ≤ L.length ∧ i = .int .i64 k ∧ wr = W.drewN m ∧ Aside (∀ j s, j < k → L[j]? = some s → M[j]? = some s)) (fun i _ => L.length - (intOf i).toNat)
      case atStart => exact ⟨0, 0, Nat.zero_le _, rfl, rfl, fun j t hj => absurd hj (Nat.not_lt_zero _)⟩
      case round =>
        obtain ⟨k, m, hk, rfl, rfl, A⟩ := hrel
        by_cases hlt : k < L.length
        · obtain ⟨b, off, rfl, hab, hc⟩ := hcell (by omega)
          obtain ⟨b2, off2, rfl, hab2, hc2⟩ := hcell2 (by omega)
          obtain ⟨s, hs⟩ : ∃ s, L[k]? = some s := ⟨_, List.getElem?_eq_getElem hlt⟩
          obtain ⟨t, ht⟩ : ∃ t, M[k]? = some t := ⟨_, List.getElem?_eq_getElem (by omega)⟩
          obtain ⟨s0, s1, s2⟩ := hc k s hs
          obtain ⟨t0, t1, t2⟩ := hc2 k t ht
          obtain ⟨x, y, z⟩ := s
          obtain ⟨x', y', z'⟩ := t
          simp only at s0 s1 s2 t0 t1 t2
          have hq := fun w => seat_neq x y x' y' z z' w
          have HS := Lib.hid hs
          have HT := Lib.hid ht
          have hlt2 : k < M.length := by omega
          clear hs ht hc hc2 hcell hcell2
          by_cases hp : (⟨x, y, z⟩ : SeatV) = ⟨x', y', z'⟩
          · rw [decide_eq_true hp] at hq
            have HP := Lib.hid hp
            clear hp
            go_wp2_with fail
            go_quiet (fail)
            go_wp2_with fail
            go_roundw
            case rel => exact ⟨k + 1, m + nq, by omega, by go_num, rfl, fun j t hj hjt => by
              rcases Nat.lt_or_ge j k with h | h
              · exact A.out j t h hjt
              · obtain rfl : j = k := by omega
                rw [HS.out] at hjt
                obtain rfl := Option.some.inj hjt
                rw [HT.out, HP.out]⟩
            case measure => simp [intOf]; omega
          · rw [decide_eq_false hp] at hq
            have HE := Lib.hid (show decide (L = M) = false from decide_eq_false (ne_at HS.out HT.out hp))
            clear hp
            go_wp2_with fail
            go_quiet (fail)
            go_wp2_with fail
            go_ret
            exact ⟨by rw [HE.out]; simp <;> rfl, by rw [World.drewN_drewN]; exact below_drewN hb _⟩
        · have HE := Lib.hid (show decide (L = M) = true from decide_eq_true (eq_all hl fun j s hj => A.out j s (by omega)))
          go_wp2_with fail
          go_ret
          exact ⟨by rw [HE.out]; simp <;> rfl, below_drewN hb _⟩
    · have HE := Lib.hid (show decide (L = M) = false from decide_eq_false fun e => hl (by rw [e]))
      have hl' : ¬ (L.length : Int) = (M.length : Int) := by omega
      have hb1 : ((L.length : Int) == (M.length : Int)) = false := by simpa using hl'
      have hb2 : ((L.length : Int) != (M.length : Int)) = true := by simpa using hl'
      go_wp2_with fail
      go_ret
      exact ⟨by rw [HE.out]; simp <;> rfl, hb⟩
  · have hee : (e == f) = false := by simpa using he
    have hen : (e != f) = true := by simpa using he
    have HE := Lib.hid (show (e == f && decide (L = M)) = false by rw [hee]; rfl)
    clear he
    go_wp2_with fail
    go_ret
    exact ⟨by rw [HE.out]; rfl, hb⟩

end Go.Proofs.YtomfmejodmfioaaGreat
