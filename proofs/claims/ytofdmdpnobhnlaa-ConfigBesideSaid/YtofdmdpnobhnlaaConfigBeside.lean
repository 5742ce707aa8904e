/- ConfigBeside: for every chain the law answers true. No condition. -/
import Derived.Test.YtofdmdpnobhnlaaCfgAwake
namespace Go.Proofs.Ytofdmdpnobhnlaa
open Go.RowKit Go.ChangeShapes Go.WideShapes Go.Joins
set_option linter.unusedVariables false

theorem place_self {L : List SeatV} (h : L.Pairwise (fun s t => s.node ≠ t.node)) {k : Nat} {s : SeatV} (hs : L[k]? = some s) : placeC L s.node s.life = k := by
  refine placeBy_hit hs (by simp) fun j t hj ht => ?_
  rw [Bool.eq_false_iff]
  intro hp
  simp only [Bool.and_eq_true, beq_iff_eq] at hp
  have hne := List.pairwise_iff_getElem.1 h j k (List.getElem?_eq_some_iff.1 ht).1 (List.getElem?_eq_some_iff.1 hs).1 hj
  rw [(List.getElem?_eq_some_iff.1 ht).2, (List.getElem?_eq_some_iff.1 hs).2] at hne
  exact hne hp.1
theorem ahead_of {L : List SeatV} (h : L.Pairwise (fun s t => s.node ≠ t.node)) {k : Nat} {s : SeatV} (hs : L[k]? = some s) : ∃ a b, aheadC L s.node s.life = (a, b, decide (0 < k)) ∧ (0 < k → ∃ t, L[k - 1]? = some t ∧ t.node = a ∧ t.life = b) := by
  rw [aheadC, place_self h hs]
  by_cases hk : 0 < k
  · obtain ⟨t, ht⟩ : ∃ t, L[k - 1]? = some t := ⟨_, List.getElem?_eq_getElem (by have := (List.getElem?_eq_some_iff.1 hs).1; omega)⟩
    refine ⟨t.node, t.life, ?_, fun _ => ⟨t, ht, rfl, rfl⟩⟩
    rw [show (k : Int) - 1 = ((k - 1 : Nat) : Int) by omega, atC_in ht, decide_eq_true hk]
  · refine ⟨0, 0, ?_, fun h => absurd h hk⟩
    rw [atC_lo (by omega), decide_eq_false hk]
theorem next_of {L : List SeatV} (h : L.Pairwise (fun s t => s.node ≠ t.node)) {k : Nat} {s : SeatV} (hs : L[k]? = some s) : ∃ a b, nextC L s.node s.life = (a, b, decide (k + 1 < L.length)) ∧ (k + 1 < L.length → ∃ t, L[k + 1]? = some t ∧ t.node = a ∧ t.life = b) := by
  rw [nextC, place_self h hs, if_neg (by omega)]
  by_cases hk : k + 1 < L.length
  · obtain ⟨t, ht⟩ : ∃ t, L[k + 1]? = some t := ⟨_, List.getElem?_eq_getElem hk⟩
    refine ⟨t.node, t.life, ?_, fun _ => ⟨t, ht, rfl, rfl⟩⟩
    rw [show (k : Int) + 1 = ((k + 1 : Nat) : Int) by omega, atC_in ht, decide_eq_true hk]
  · refine ⟨0, 0, ?_, fun h => absurd h hk⟩
    rw [atC_hi (by omega), decide_eq_false hk]
theorem mem_neq_refl (a b : Int) (w : World) : (Go.binOp .neq 27 (.agg #[.int .i64 a, .int .i64 b]) (.agg #[.int .i64 a, .int .i64 b])).run Try.prog w = .ok (.bool false) w := by
  rw [mem_neq]
  simp

set_option maxRecDepth 100000 in
set_option maxHeartbeats 4000000 in

theorem ConfigBeside_go {w : World} {e : Int} {a : Option Addr} {cap : Nat} {L : List SeatV} (hv : ChainAt w (.slice a L.length cap) L) :
    Calls Try.prog 8 #[.agg #[.int .i64 e, .slice a L.length cap]] w fun e w' => e = .returned (.bool true) ∧ Below w.heap.size w w' := by
  obtain ⟨_, _, hvv, hs⟩ := id hv
  cases hvv
  have hlen := hs.1
  unfold maxLen at hlen
  have hv0 := hv
  go_enter Try.func8, Try.ntmps8
  go_upto_region 1 with (fail)
  have hC : BlkAt (w.alloc (.cells #[.int .i64 e, .slice a L.length cap] 24)) w.heap.size 24 [.int .i64 e, .slice a L.length cap] := BlkAt.new w 24 [.int .i64 e, .slice a L.length cap]
  have hb : Below w.heap.size w (w.alloc (.cells #[.int .i64 e, .slice a L.length cap] 24)) := (Below.refl w.heap.size w).alloc (Nat.le_refl _) _
  have hWs : w.heap.size + 1 ≤ (w.alloc (.cells #[.int .i64 e, .slice a L.length cap] 24)).heap.size := by simp
  have hv := hv.below hb
  change Code.wp _ _ _ _ (w.alloc (.cells #[.int .i64 e, .slice a L.length cap] 24))
  generalize w.alloc (.cells #[.int .i64 e, .slice a L.length cap] 24) = W at *
  clear hWs
  go_wp2_with fail
  refine (awake_any _).mono ?_
  rintro en w1 ⟨rfl, b1⟩
  have hC := BlkAt.below (by exact hC) b1
  have hv := hv.below b1
  have hb := below_step hb b1
  clear b1
  cases hr : rightC ⟨e, L⟩ with
  | false =>
    have fhC0 : w1.cell? ⟨w.heap.size, 0, none⟩ = some (.int .i64 e) := hC.cell rfl
    have fhC1 : w1.cell? ⟨w.heap.size, 1, none⟩ = some (.slice a L.length cap) := hC.cell rfl
    go_wp2_with fail
    refine (qcright_at (by exact hv) hr).mono ?_
    rintro en w2 ⟨rfl, b2⟩
    have hC := BlkAt.below (by exact hC) b2
    have hv := hv.below b2
    have hb := below_step hb b2
    clear fhC0 fhC1 b2
    go_wp2_with fail
    refine (awake_any _).mono ?_
    rintro en w3 ⟨rfl, b3⟩
    have hC := BlkAt.below (by exact hC) b3
    have hv := hv.below b3
    have hb := below_step hb b3
    clear b3
    go_wp2_with fail
    go_ret
    exact ⟨rfl, hb⟩
  | true =>
    have hpw := seatsOk_nodes (rightC_iff.1 hr).2.2.2.2.2
    have hl8 : L.length ≤ 8 := (rightC_iff.1 hr).2.2.2.1
    have fhC0 : w1.cell? ⟨w.heap.size, 0, none⟩ = some (.int .i64 e) := hC.cell rfl
    have fhC1 : w1.cell? ⟨w.heap.size, 1, none⟩ = some (.slice a L.length cap) := hC.cell rfl
    go_wp2_with fail
    refine (qcright_at (by exact hv) hr).mono ?_
    rintro en w2 ⟨rfl, b2⟩
    have hC := BlkAt.below (by exact hC) b2
    have hv := hv.below b2
    have hb := below_step hb b2
    clear fhC0 fhC1 b2
    clear hr
    have fhC0 : w2.cell? ⟨w.heap.size, 0, none⟩ = some (.int .i64 e) := hC.cell rfl
    have fhC1 : w2.cell? ⟨w.heap.size, 1, none⟩ = some (.slice a L.length cap) := hC.cell rfl
    go_wp2_with fail
    clear fhC0 fhC1
    go_loopw [24] (fun i wr => ∃ k : Nat, k ≤ L.length ∧ i = .int .i64 k ∧ BlkAt wr w.heap.size 24 [.int .i64 e, .slice a L.length cap] ∧ ChainAt wr (.slice a L.length cap) L ∧ Below w.heap.size w wr) (fun i _ => L.length - (intOf i).toNat)
    case atStart => exact ⟨0, Nat.zero_le _, rfl, hC, hv, hb⟩
    case round =>
      obtain ⟨k, hk, rfl, hC, hv, hb⟩ := hrel
      by_cases hlt : k < L.length
      · obtain ⟨b, off, rfl, hab, hc⟩ := hs.2.2 (by omega)
        obtain ⟨s, hs'⟩ : ∃ s, L[k]? = some s := ⟨_, List.getElem?_eq_getElem hlt⟩
        obtain ⟨s0, s1, s2⟩ := (hc k s hs').of (w' := wr) fun j => hb.cell (p := ⟨b, j, none⟩) hab
        obtain ⟨an, al, hah, hap⟩ := ahead_of hpw hs'
        obtain ⟨bn, bl, hnx, hnp⟩ := next_of hpw hs'
        have hpl := place_self hpw hs'
        obtain ⟨x, y, z⟩ := s
        simp only at s0 s1 s2 hah hnx hpl
        have HS := Lib.hid hs'
        have HPW := Lib.hid hpw
        have hHs := Lib.hid hs
        have HA := Lib.hid hah
        have HN := Lib.hid hnx
        have HPL := Lib.hid hpl
        have HAP := Lib.hid hap
        have HNP := Lib.hid hnp
        clear hc hs' hs hpw hah hnx hpl hap hnp
        have HXP : 0 < k → nextC L an al = (x, y, true) := fun h => by
          obtain ⟨t, ht, rfl, rfl⟩ := HAP.out h
          rw [nextC, place_self HPW.out ht, if_neg (by omega), show ((k - 1 : Nat) : Int) + 1 = (k : Nat) by omega]
          exact atC_in HS.out
        have HXQ : k + 1 < L.length → aheadC L bn bl = (x, y, true) := fun h => by
          obtain ⟨t, ht, rfl, rfl⟩ := HNP.out h
          rw [aheadC, place_self HPW.out ht, show ((k + 1 : Nat) : Int) - 1 = (k : Nat) by omega]
          exact atC_in HS.out
        have KP := Lib.hid HXP
        have KQ := Lib.hid HXQ
        clear HXP HXQ
        by_cases h1 : 0 < k
        · by_cases h2 : k + 1 < L.length
          ·
            rw [decide_eq_true h1] at HA
            rw [decide_eq_true h2] at HN
            have h1i : (0 : Int) < (k : Int) := by omega
            have h2i : (k : Int) < (L.length : Int) - 1 := by omega
            go_upto_region 6 with (fail)
            have hS := BlkAt.new wr 50 [.int .i64 x, .int .i64 y, .bool z]
            have hC := hC.alloc (.cells #[.int .i64 x, .int .i64 y, .bool z] 50)
            have hv := hv.alloc (.cells #[.int .i64 x, .int .i64 y, .bool z] 50)
            have hb := hb.alloc hb.size (.cells #[.int .i64 x, .int .i64 y, .bool z] 50)
            change Code.wp _ _ _ _ (wr.alloc (.cells #[.int .i64 x, .int .i64 y, .bool z] 50))
            change BlkAt (wr.alloc (.cells #[.int .i64 x, .int .i64 y, .bool z] 50)) _ _ _ at hS
            generalize wr.alloc (.cells #[.int .i64 x, .int .i64 y, .bool z] 50) = v50_1 at *
            generalize wr.heap.size = S at *
            clear s0 s1 s2
            have fhC0 : v50_1.cell? ⟨w.heap.size, 0, none⟩ = some (.int .i64 e) := hC.cell rfl
            have fhC1 : v50_1.cell? ⟨w.heap.size, 1, none⟩ = some (.slice (some ⟨b, off, none⟩) L.length cap) := hC.cell rfl
            have fhS0 : v50_1.cell? ⟨S, 0, none⟩ = some (.int .i64 x) := hS.cell rfl
            have fhS1 : v50_1.cell? ⟨S, 1, none⟩ = some (.int .i64 y) := hS.cell rfl
            have fhS2 : v50_1.cell? ⟨S, 2, none⟩ = some (.bool z) := hS.cell rfl
            go_wp2_with fail
            refine (cahead_at (by exact hv) e HA.out).mono ?_
            rintro en w51 ⟨rfl, b51⟩
            have hC := BlkAt.below (by exact hC) b51
            have hS := BlkAt.below (by exact hS) b51
            have hv := hv.below b51
            have hb := below_step hb b51
            clear fhC0 fhC1 fhS0 fhS1 fhS2 b51
            go_upto_region 7 with (fail)
            have hX := BlkAt.new w51 27 [.int .i64 an, .int .i64 al]
            have hC := hC.alloc (.cells #[.int .i64 an, .int .i64 al] 27)
            have hS := hS.alloc (.cells #[.int .i64 an, .int .i64 al] 27)
            have hv := hv.alloc (.cells #[.int .i64 an, .int .i64 al] 27)
            have hb := hb.alloc hb.size (.cells #[.int .i64 an, .int .i64 al] 27)
            change Code.wp _ _ _ _ (w51.alloc (.cells #[.int .i64 an, .int .i64 al] 27))
            change BlkAt (w51.alloc (.cells #[.int .i64 an, .int .i64 al] 27)) _ _ _ at hX
            generalize w51.alloc (.cells #[.int .i64 an, .int .i64 al] 27) = v51_2 at *
            generalize w51.heap.size = X at *
            have fhC0 : v51_2.cell? ⟨w.heap.size, 0, none⟩ = some (.int .i64 e) := hC.cell rfl
            have fhC1 : v51_2.cell? ⟨w.heap.size, 1, none⟩ = some (.slice (some ⟨b, off, none⟩) L.length cap) := hC.cell rfl
            have fhS0 : v51_2.cell? ⟨S, 0, none⟩ = some (.int .i64 x) := hS.cell rfl
            have fhS1 : v51_2.cell? ⟨S, 1, none⟩ = some (.int .i64 y) := hS.cell rfl
            have fhS2 : v51_2.cell? ⟨S, 2, none⟩ = some (.bool z) := hS.cell rfl
            go_wp2_with fail
            refine (cnext_at (by exact hv) e HN.out).mono ?_
            rintro en w52 ⟨rfl, b52⟩
            have hC := BlkAt.below (by exact hC) b52
            have hS := BlkAt.below (by exact hS) b52
            have hX := BlkAt.below (by exact hX) b52
            have hv := hv.below b52
            have hb := below_step hb b52
            clear fhC0 fhC1 fhS0 fhS1 fhS2 b52
            go_upto_region 8 with (fail)
            have hY := BlkAt.new w52 27 [.int .i64 bn, .int .i64 bl]
            have hC := hC.alloc (.cells #[.int .i64 bn, .int .i64 bl] 27)
            have hS := hS.alloc (.cells #[.int .i64 bn, .int .i64 bl] 27)
            have hX := hX.alloc (.cells #[.int .i64 bn, .int .i64 bl] 27)
            have hv := hv.alloc (.cells #[.int .i64 bn, .int .i64 bl] 27)
            have hb := hb.alloc hb.size (.cells #[.int .i64 bn, .int .i64 bl] 27)
            change Code.wp _ _ _ _ (w52.alloc (.cells #[.int .i64 bn, .int .i64 bl] 27))
            change BlkAt (w52.alloc (.cells #[.int .i64 bn, .int .i64 bl] 27)) _ _ _ at hY
            generalize w52.alloc (.cells #[.int .i64 bn, .int .i64 bl] 27) = v52_3 at *
            generalize w52.heap.size = Y at *
            have fhC0 : v52_3.cell? ⟨w.heap.size, 0, none⟩ = some (.int .i64 e) := hC.cell rfl
            have fhC1 : v52_3.cell? ⟨w.heap.size, 1, none⟩ = some (.slice (some ⟨b, off, none⟩) L.length cap) := hC.cell rfl
            have fhS0 : v52_3.cell? ⟨S, 0, none⟩ = some (.int .i64 x) := hS.cell rfl
            have fhS1 : v52_3.cell? ⟨S, 1, none⟩ = some (.int .i64 y) := hS.cell rfl
            have fhS2 : v52_3.cell? ⟨S, 2, none⟩ = some (.bool z) := hS.cell rfl
            go_wp2_with fail
            refine (cplace_at (by exact hv) e HPL.out).mono ?_
            rintro en w53 ⟨rfl, b53⟩
            have hC := BlkAt.below (by exact hC) b53
            have hS := BlkAt.below (by exact hS) b53
            have hX := BlkAt.below (by exact hX) b53
            have hY := BlkAt.below (by exact hY) b53
            have hv := hv.below b53
            have hb := below_step hb b53
            clear fhC0 fhC1 fhS0 fhS1 fhS2 b53
            have HX := Lib.hid (KP.out h1)
            have fhC0 : w53.cell? ⟨w.heap.size, 0, none⟩ = some (.int .i64 e) := hC.cell rfl
            have fhC1 : w53.cell? ⟨w.heap.size, 1, none⟩ = some (.slice (some ⟨b, off, none⟩) L.length cap) := hC.cell rfl
            have fhX0 : w53.cell? ⟨X, 0, none⟩ = some (.int .i64 an) := hX.cell rfl
            have fhX1 : w53.cell? ⟨X, 1, none⟩ = some (.int .i64 al) := hX.cell rfl
            go_wp2_with fail
            refine (cnext_at (by exact hv) e HX.out).mono ?_
            rintro en w54 ⟨rfl, b54⟩
            have hC := BlkAt.below (by exact hC) b54
            have hS := BlkAt.below (by exact hS) b54
            have hX := BlkAt.below (by exact hX) b54
            have hY := BlkAt.below (by exact hY) b54
            have hv := hv.below b54
            have hb := below_step hb b54
            clear fhC0 fhC1 fhX0 fhX1 b54
            go_upto_region 11 with (fail)
            have hZ := BlkAt.new w54 27 [.int .i64 x, .int .i64 y]
            have hC := hC.alloc (.cells #[.int .i64 x, .int .i64 y] 27)
            have hS := hS.alloc (.cells #[.int .i64 x, .int .i64 y] 27)
            have hX := hX.alloc (.cells #[.int .i64 x, .int .i64 y] 27)
            have hY := hY.alloc (.cells #[.int .i64 x, .int .i64 y] 27)
            have hv := hv.alloc (.cells #[.int .i64 x, .int .i64 y] 27)
            have hb := hb.alloc hb.size (.cells #[.int .i64 x, .int .i64 y] 27)
            change Code.wp _ _ _ _ (w54.alloc (.cells #[.int .i64 x, .int .i64 y] 27))
            change BlkAt (w54.alloc (.cells #[.int .i64 x, .int .i64 y] 27)) _ _ _ at hZ
            generalize w54.alloc (.cells #[.int .i64 x, .int .i64 y] 27) = v54_4 at *
            generalize w54.heap.size = Z at *
            have fhZ0 : v54_4.cell? ⟨Z, 0, none⟩ = some (.int .i64 x) := hZ.cell rfl
            have fhZ1 : v54_4.cell? ⟨Z, 1, none⟩ = some (.int .i64 y) := hZ.cell rfl
            have fhS0 : v54_4.cell? ⟨S, 0, none⟩ = some (.int .i64 x) := hS.cell rfl
            have fhS1 : v54_4.cell? ⟨S, 1, none⟩ = some (.int .i64 y) := hS.cell rfl
            have fhS2 : v54_4.cell? ⟨S, 2, none⟩ = some (.bool z) := hS.cell rfl
            have hne := mem_neq_refl x y
            go_upto_region 13 with (fail)
            clear fhZ0 fhZ1 fhS0 fhS1 fhS2
            clear hne
            have HX2 := Lib.hid (KQ.out h2)
            have fhC0 : v54_4.cell? ⟨w.heap.size, 0, none⟩ = some (.int .i64 e) := hC.cell rfl
            have fhC1 : v54_4.cell? ⟨w.heap.size, 1, none⟩ = some (.slice (some ⟨b, off, none⟩) L.length cap) := hC.cell rfl
            have fhY0 : v54_4.cell? ⟨Y, 0, none⟩ = some (.int .i64 bn) := hY.cell rfl
            have fhY1 : v54_4.cell? ⟨Y, 1, none⟩ = some (.int .i64 bl) := hY.cell rfl
            go_wp2_with fail
            refine (cahead_at (by exact hv) e HX2.out).mono ?_
            rintro en w55 ⟨rfl, b55⟩
            have hC := BlkAt.below (by exact hC) b55
            have hS := BlkAt.below (by exact hS) b55
            have hX := BlkAt.below (by exact hX) b55
            have hY := BlkAt.below (by exact hY) b55
            have hZ := BlkAt.below (by exact hZ) b55
            have hv := hv.below b55
            have hb := below_step hb b55
            clear fhC0 fhC1 fhY0 fhY1 b55
            go_upto_region 14 with (fail)
            have hU := BlkAt.new w55 27 [.int .i64 x, .int .i64 y]
            have hC := hC.alloc (.cells #[.int .i64 x, .int .i64 y] 27)
            have hS := hS.alloc (.cells #[.int .i64 x, .int .i64 y] 27)
            have hX := hX.alloc (.cells #[.int .i64 x, .int .i64 y] 27)
            have hY := hY.alloc (.cells #[.int .i64 x, .int .i64 y] 27)
            have hZ := hZ.alloc (.cells #[.int .i64 x, .int .i64 y] 27)
            have hv := hv.alloc (.cells #[.int .i64 x, .int .i64 y] 27)
            have hb := hb.alloc hb.size (.cells #[.int .i64 x, .int .i64 y] 27)
            change Code.wp _ _ _ _ (w55.alloc (.cells #[.int .i64 x, .int .i64 y] 27))
            change BlkAt (w55.alloc (.cells #[.int .i64 x, .int .i64 y] 27)) _ _ _ at hU
            generalize w55.alloc (.cells #[.int .i64 x, .int .i64 y] 27) = v55_5 at *
            generalize w55.heap.size = U at *
            have fhU0 : v55_5.cell? ⟨U, 0, none⟩ = some (.int .i64 x) := hU.cell rfl
            have fhU1 : v55_5.cell? ⟨U, 1, none⟩ = some (.int .i64 y) := hU.cell rfl
            have fhS0 : v55_5.cell? ⟨S, 0, none⟩ = some (.int .i64 x) := hS.cell rfl
            have fhS1 : v55_5.cell? ⟨S, 1, none⟩ = some (.int .i64 y) := hS.cell rfl
            have fhS2 : v55_5.cell? ⟨S, 2, none⟩ = some (.bool z) := hS.cell rfl
            have hne := mem_neq_refl x y
            go_wp2_with fail
            go_roundw
            case rel => exact ⟨k + 1, by omega, by go_num, hC, hv, hb⟩
            case measure => simp [intOf]; omega
          ·
            rw [decide_eq_true h1] at HA
            rw [decide_eq_false h2] at HN
            have h1i : (0 : Int) < (k : Int) := by omega
            have h2i : ¬ (k : Int) < (L.length : Int) - 1 := by omega
            go_upto_region 6 with (fail)
            have hS := BlkAt.new wr 50 [.int .i64 x, .int .i64 y, .bool z]
            have hC := hC.alloc (.cells #[.int .i64 x, .int .i64 y, .bool z] 50)
            have hv := hv.alloc (.cells #[.int .i64 x, .int .i64 y, .bool z] 50)
            have hb := hb.alloc hb.size (.cells #[.int .i64 x, .int .i64 y, .bool z] 50)
            change Code.wp _ _ _ _ (wr.alloc (.cells #[.int .i64 x, .int .i64 y, .bool z] 50))
            change BlkAt (wr.alloc (.cells #[.int .i64 x, .int .i64 y, .bool z] 50)) _ _ _ at hS
            generalize wr.alloc (.cells #[.int .i64 x, .int .i64 y, .bool z] 50) = v50_1 at *
            generalize wr.heap.size = S at *
            clear s0 s1 s2
            have fhC0 : v50_1.cell? ⟨w.heap.size, 0, none⟩ = some (.int .i64 e) := hC.cell rfl
            have fhC1 : v50_1.cell? ⟨w.heap.size, 1, none⟩ = some (.slice (some ⟨b, off, none⟩) L.length cap) := hC.cell rfl
            have fhS0 : v50_1.cell? ⟨S, 0, none⟩ = some (.int .i64 x) := hS.cell rfl
            have fhS1 : v50_1.cell? ⟨S, 1, none⟩ = some (.int .i64 y) := hS.cell rfl
            have fhS2 : v50_1.cell? ⟨S, 2, none⟩ = some (.bool z) := hS.cell rfl
            go_wp2_with fail
            refine (cahead_at (by exact hv) e HA.out).mono ?_
            rintro en w51 ⟨rfl, b51⟩
            have hC := BlkAt.below (by exact hC) b51
            have hS := BlkAt.below (by exact hS) b51
            have hv := hv.below b51
            have hb := below_step hb b51
            clear fhC0 fhC1 fhS0 fhS1 fhS2 b51
            go_upto_region 7 with (fail)
            have hX := BlkAt.new w51 27 [.int .i64 an, .int .i64 al]
            have hC := hC.alloc (.cells #[.int .i64 an, .int .i64 al] 27)
            have hS := hS.alloc (.cells #[.int .i64 an, .int .i64 al] 27)
            have hv := hv.alloc (.cells #[.int .i64 an, .int .i64 al] 27)
            have hb := hb.alloc hb.size (.cells #[.int .i64 an, .int .i64 al] 27)
            change Code.wp _ _ _ _ (w51.alloc (.cells #[.int .i64 an, .int .i64 al] 27))
            change BlkAt (w51.alloc (.cells #[.int .i64 an, .int .i64 al] 27)) _ _ _ at hX
            generalize w51.alloc (.cells #[.int .i64 an, .int .i64 al] 27) = v51_2 at *
            generalize w51.heap.size = X at *
            have fhC0 : v51_2.cell? ⟨w.heap.size, 0, none⟩ = some (.int .i64 e) := hC.cell rfl
            have fhC1 : v51_2.cell? ⟨w.heap.size, 1, none⟩ = some (.slice (some ⟨b, off, none⟩) L.length cap) := hC.cell rfl
            have fhS0 : v51_2.cell? ⟨S, 0, none⟩ = some (.int .i64 x) := hS.cell rfl
            have fhS1 : v51_2.cell? ⟨S, 1, none⟩ = some (.int .i64 y) := hS.cell rfl
            have fhS2 : v51_2.cell? ⟨S, 2, none⟩ = some (.bool z) := hS.cell rfl
            go_wp2_with fail
            refine (cnext_at (by exact hv) e HN.out).mono ?_
            rintro en w52 ⟨rfl, b52⟩
            have hC := BlkAt.below (by exact hC) b52
            have hS := BlkAt.below (by exact hS) b52
            have hX := BlkAt.below (by exact hX) b52
            have hv := hv.below b52
            have hb := below_step hb b52
            clear fhC0 fhC1 fhS0 fhS1 fhS2 b52
            go_upto_region 8 with (fail)
            have hY := BlkAt.new w52 27 [.int .i64 bn, .int .i64 bl]
            have hC := hC.alloc (.cells #[.int .i64 bn, .int .i64 bl] 27)
            have hS := hS.alloc (.cells #[.int .i64 bn, .int .i64 bl] 27)
            have hX := hX.alloc (.cells #[.int .i64 bn, .int .i64 bl] 27)
            have hv := hv.alloc (.cells #[.int .i64 bn, .int .i64 bl] 27)
            have hb := hb.alloc hb.size (.cells #[.int .i64 bn, .int .i64 bl] 27)
            change Code.wp _ _ _ _ (w52.alloc (.cells #[.int .i64 bn, .int .i64 bl] 27))
            change BlkAt (w52.alloc (.cells #[.int .i64 bn, .int .i64 bl] 27)) _ _ _ at hY
            generalize w52.alloc (.cells #[.int .i64 bn, .int .i64 bl] 27) = v52_3 at *
            generalize w52.heap.size = Y at *
            have fhC0 : v52_3.cell? ⟨w.heap.size, 0, none⟩ = some (.int .i64 e) := hC.cell rfl
            have fhC1 : v52_3.cell? ⟨w.heap.size, 1, none⟩ = some (.slice (some ⟨b, off, none⟩) L.length cap) := hC.cell rfl
            have fhS0 : v52_3.cell? ⟨S, 0, none⟩ = some (.int .i64 x) := hS.cell rfl
            have fhS1 : v52_3.cell? ⟨S, 1, none⟩ = some (.int .i64 y) := hS.cell rfl
            have fhS2 : v52_3.cell? ⟨S, 2, none⟩ = some (.bool z) := hS.cell rfl
            go_wp2_with fail
            refine (cplace_at (by exact hv) e HPL.out).mono ?_
            rintro en w53 ⟨rfl, b53⟩
            have hC := BlkAt.below (by exact hC) b53
            have hS := BlkAt.below (by exact hS) b53
            have hX := BlkAt.below (by exact hX) b53
            have hY := BlkAt.below (by exact hY) b53
            have hv := hv.below b53
            have hb := below_step hb b53
            clear fhC0 fhC1 fhS0 fhS1 fhS2 b53
            have HX := Lib.hid (KP.out h1)
            have fhC0 : w53.cell? ⟨w.heap.size, 0, none⟩ = some (.int .i64 e) := hC.cell rfl
            have fhC1 : w53.cell? ⟨w.heap.size, 1, none⟩ = some (.slice (some ⟨b, off, none⟩) L.length cap) := hC.cell rfl
            have fhX0 : w53.cell? ⟨X, 0, none⟩ = some (.int .i64 an) := hX.cell rfl
            have fhX1 : w53.cell? ⟨X, 1, none⟩ = some (.int .i64 al) := hX.cell rfl
            go_wp2_with fail
            refine (cnext_at (by exact hv) e HX.out).mono ?_
            rintro en w54 ⟨rfl, b54⟩
            have hC := BlkAt.below (by exact hC) b54
            have hS := BlkAt.below (by exact hS) b54
            have hX := BlkAt.below (by exact hX) b54
            have hY := BlkAt.below (by exact hY) b54
            have hv := hv.below b54
            have hb := below_step hb b54
            clear fhC0 fhC1 fhX0 fhX1 b54
            go_upto_region 11 with (fail)
            have hZ := BlkAt.new w54 27 [.int .i64 x, .int .i64 y]
            have hC := hC.alloc (.cells #[.int .i64 x, .int .i64 y] 27)
            have hS := hS.alloc (.cells #[.int .i64 x, .int .i64 y] 27)
            have hX := hX.alloc (.cells #[.int .i64 x, .int .i64 y] 27)
            have hY := hY.alloc (.cells #[.int .i64 x, .int .i64 y] 27)
            have hv := hv.alloc (.cells #[.int .i64 x, .int .i64 y] 27)
            have hb := hb.alloc hb.size (.cells #[.int .i64 x, .int .i64 y] 27)
            change Code.wp _ _ _ _ (w54.alloc (.cells #[.int .i64 x, .int .i64 y] 27))
            change BlkAt (w54.alloc (.cells #[.int .i64 x, .int .i64 y] 27)) _ _ _ at hZ
            generalize w54.alloc (.cells #[.int .i64 x, .int .i64 y] 27) = v54_4 at *
            generalize w54.heap.size = Z at *
            have fhZ0 : v54_4.cell? ⟨Z, 0, none⟩ = some (.int .i64 x) := hZ.cell rfl
            have fhZ1 : v54_4.cell? ⟨Z, 1, none⟩ = some (.int .i64 y) := hZ.cell rfl
            have fhS0 : v54_4.cell? ⟨S, 0, none⟩ = some (.int .i64 x) := hS.cell rfl
            have fhS1 : v54_4.cell? ⟨S, 1, none⟩ = some (.int .i64 y) := hS.cell rfl
            have fhS2 : v54_4.cell? ⟨S, 2, none⟩ = some (.bool z) := hS.cell rfl
            have hne := mem_neq_refl x y
            go_upto_region 13 with (fail)
            clear fhZ0 fhZ1 fhS0 fhS1 fhS2
            clear hne
            obtain ⟨yn, yl, yb, HX2⟩ : ∃ yn yl yb, Hid (aheadC L bn bl = (yn, yl, yb)) := ⟨_, _, _, rfl⟩
            have fhC0 : v54_4.cell? ⟨w.heap.size, 0, none⟩ = some (.int .i64 e) := hC.cell rfl
            have fhC1 : v54_4.cell? ⟨w.heap.size, 1, none⟩ = some (.slice (some ⟨b, off, none⟩) L.length cap) := hC.cell rfl
            have fhY0 : v54_4.cell? ⟨Y, 0, none⟩ = some (.int .i64 bn) := hY.cell rfl
            have fhY1 : v54_4.cell? ⟨Y, 1, none⟩ = some (.int .i64 bl) := hY.cell rfl
            go_wp2_with fail
            refine (cahead_at (by exact hv) e HX2.out).mono ?_
            rintro en w55 ⟨rfl, b55⟩
            have hC := BlkAt.below (by exact hC) b55
            have hS := BlkAt.below (by exact hS) b55
            have hX := BlkAt.below (by exact hX) b55
            have hY := BlkAt.below (by exact hY) b55
            have hZ := BlkAt.below (by exact hZ) b55
            have hv := hv.below b55
            have hb := below_step hb b55
            clear fhC0 fhC1 fhY0 fhY1 b55
            go_upto_region 14 with (fail)
            have hU := BlkAt.new w55 27 [.int .i64 yn, .int .i64 yl]
            have hC := hC.alloc (.cells #[.int .i64 yn, .int .i64 yl] 27)
            have hS := hS.alloc (.cells #[.int .i64 yn, .int .i64 yl] 27)
            have hX := hX.alloc (.cells #[.int .i64 yn, .int .i64 yl] 27)
            have hY := hY.alloc (.cells #[.int .i64 yn, .int .i64 yl] 27)
            have hZ := hZ.alloc (.cells #[.int .i64 yn, .int .i64 yl] 27)
            have hv := hv.alloc (.cells #[.int .i64 yn, .int .i64 yl] 27)
            have hb := hb.alloc hb.size (.cells #[.int .i64 yn, .int .i64 yl] 27)
            change Code.wp _ _ _ _ (w55.alloc (.cells #[.int .i64 yn, .int .i64 yl] 27))
            change BlkAt (w55.alloc (.cells #[.int .i64 yn, .int .i64 yl] 27)) _ _ _ at hU
            generalize w55.alloc (.cells #[.int .i64 yn, .int .i64 yl] 27) = v55_5 at *
            generalize w55.heap.size = U at *
            have fhU0 : v55_5.cell? ⟨U, 0, none⟩ = some (.int .i64 yn) := hU.cell rfl
            have fhU1 : v55_5.cell? ⟨U, 1, none⟩ = some (.int .i64 yl) := hU.cell rfl
            have fhS0 : v55_5.cell? ⟨S, 0, none⟩ = some (.int .i64 x) := hS.cell rfl
            have fhS1 : v55_5.cell? ⟨S, 1, none⟩ = some (.int .i64 y) := hS.cell rfl
            have fhS2 : v55_5.cell? ⟨S, 2, none⟩ = some (.bool z) := hS.cell rfl
            have hne := mem_neq_refl x y
            go_wp2_with fail
            go_roundw
            case rel => exact ⟨k + 1, by omega, by go_num, hC, hv, hb⟩
            case measure => simp [intOf]; omega
        · by_cases h2 : k + 1 < L.length
          ·
            rw [decide_eq_false h1] at HA
            rw [decide_eq_true h2] at HN
            have h1i : ¬ (0 : Int) < (k : Int) := by omega
            have h2i : (k : Int) < (L.length : Int) - 1 := by omega
            go_upto_region 6 with (fail)
            have hS := BlkAt.new wr 50 [.int .i64 x, .int .i64 y, .bool z]
            have hC := hC.alloc (.cells #[.int .i64 x, .int .i64 y, .bool z] 50)
            have hv := hv.alloc (.cells #[.int .i64 x, .int .i64 y, .bool z] 50)
            have hb := hb.alloc hb.size (.cells #[.int .i64 x, .int .i64 y, .bool z] 50)
            change Code.wp _ _ _ _ (wr.alloc (.cells #[.int .i64 x, .int .i64 y, .bool z] 50))
            change BlkAt (wr.alloc (.cells #[.int .i64 x, .int .i64 y, .bool z] 50)) _ _ _ at hS
            generalize wr.alloc (.cells #[.int .i64 x, .int .i64 y, .bool z] 50) = v50_1 at *
            generalize wr.heap.size = S at *
            clear s0 s1 s2
            have fhC0 : v50_1.cell? ⟨w.heap.size, 0, none⟩ = some (.int .i64 e) := hC.cell rfl
            have fhC1 : v50_1.cell? ⟨w.heap.size, 1, none⟩ = some (.slice (some ⟨b, off, none⟩) L.length cap) := hC.cell rfl
            have fhS0 : v50_1.cell? ⟨S, 0, none⟩ = some (.int .i64 x) := hS.cell rfl
            have fhS1 : v50_1.cell? ⟨S, 1, none⟩ = some (.int .i64 y) := hS.cell rfl
            have fhS2 : v50_1.cell? ⟨S, 2, none⟩ = some (.bool z) := hS.cell rfl
            go_wp2_with fail
            refine (cahead_at (by exact hv) e HA.out).mono ?_
            rintro en w51 ⟨rfl, b51⟩
            have hC := BlkAt.below (by exact hC) b51
            have hS := BlkAt.below (by exact hS) b51
            have hv := hv.below b51
            have hb := below_step hb b51
            clear fhC0 fhC1 fhS0 fhS1 fhS2 b51
            go_upto_region 7 with (fail)
            have hX := BlkAt.new w51 27 [.int .i64 an, .int .i64 al]
            have hC := hC.alloc (.cells #[.int .i64 an, .int .i64 al] 27)
            have hS := hS.alloc (.cells #[.int .i64 an, .int .i64 al] 27)
            have hv := hv.alloc (.cells #[.int .i64 an, .int .i64 al] 27)
            have hb := hb.alloc hb.size (.cells #[.int .i64 an, .int .i64 al] 27)
            change Code.wp _ _ _ _ (w51.alloc (.cells #[.int .i64 an, .int .i64 al] 27))
            change BlkAt (w51.alloc (.cells #[.int .i64 an, .int .i64 al] 27)) _ _ _ at hX
            generalize w51.alloc (.cells #[.int .i64 an, .int .i64 al] 27) = v51_2 at *
            generalize w51.heap.size = X at *
            have fhC0 : v51_2.cell? ⟨w.heap.size, 0, none⟩ = some (.int .i64 e) := hC.cell rfl
            have fhC1 : v51_2.cell? ⟨w.heap.size, 1, none⟩ = some (.slice (some ⟨b, off, none⟩) L.length cap) := hC.cell rfl
            have fhS0 : v51_2.cell? ⟨S, 0, none⟩ = some (.int .i64 x) := hS.cell rfl
            have fhS1 : v51_2.cell? ⟨S, 1, none⟩ = some (.int .i64 y) := hS.cell rfl
            have fhS2 : v51_2.cell? ⟨S, 2, none⟩ = some (.bool z) := hS.cell rfl
            go_wp2_with fail
            refine (cnext_at (by exact hv) e HN.out).mono ?_
            rintro en w52 ⟨rfl, b52⟩
            have hC := BlkAt.below (by exact hC) b52
            have hS := BlkAt.below (by exact hS) b52
            have hX := BlkAt.below (by exact hX) b52
            have hv := hv.below b52
            have hb := below_step hb b52
            clear fhC0 fhC1 fhS0 fhS1 fhS2 b52
            go_upto_region 8 with (fail)
            have hY := BlkAt.new w52 27 [.int .i64 bn, .int .i64 bl]
            have hC := hC.alloc (.cells #[.int .i64 bn, .int .i64 bl] 27)
            have hS := hS.alloc (.cells #[.int .i64 bn, .int .i64 bl] 27)
            have hX := hX.alloc (.cells #[.int .i64 bn, .int .i64 bl] 27)
            have hv := hv.alloc (.cells #[.int .i64 bn, .int .i64 bl] 27)
            have hb := hb.alloc hb.size (.cells #[.int .i64 bn, .int .i64 bl] 27)
            change Code.wp _ _ _ _ (w52.alloc (.cells #[.int .i64 bn, .int .i64 bl] 27))
            change BlkAt (w52.alloc (.cells #[.int .i64 bn, .int .i64 bl] 27)) _ _ _ at hY
            generalize w52.alloc (.cells #[.int .i64 bn, .int .i64 bl] 27) = v52_3 at *
            generalize w52.heap.size = Y at *
            have fhC0 : v52_3.cell? ⟨w.heap.size, 0, none⟩ = some (.int .i64 e) := hC.cell rfl
            have fhC1 : v52_3.cell? ⟨w.heap.size, 1, none⟩ = some (.slice (some ⟨b, off, none⟩) L.length cap) := hC.cell rfl
            have fhS0 : v52_3.cell? ⟨S, 0, none⟩ = some (.int .i64 x) := hS.cell rfl
            have fhS1 : v52_3.cell? ⟨S, 1, none⟩ = some (.int .i64 y) := hS.cell rfl
            have fhS2 : v52_3.cell? ⟨S, 2, none⟩ = some (.bool z) := hS.cell rfl
            go_wp2_with fail
            refine (cplace_at (by exact hv) e HPL.out).mono ?_
            rintro en w53 ⟨rfl, b53⟩
            have hC := BlkAt.below (by exact hC) b53
            have hS := BlkAt.below (by exact hS) b53
            have hX := BlkAt.below (by exact hX) b53
            have hY := BlkAt.below (by exact hY) b53
            have hv := hv.below b53
            have hb := below_step hb b53
            clear fhC0 fhC1 fhS0 fhS1 fhS2 b53
            obtain ⟨xn, xl, xb, HX⟩ : ∃ xn xl xb, Hid (nextC L an al = (xn, xl, xb)) := ⟨_, _, _, rfl⟩
            have fhC0 : w53.cell? ⟨w.heap.size, 0, none⟩ = some (.int .i64 e) := hC.cell rfl
            have fhC1 : w53.cell? ⟨w.heap.size, 1, none⟩ = some (.slice (some ⟨b, off, none⟩) L.length cap) := hC.cell rfl
            have fhX0 : w53.cell? ⟨X, 0, none⟩ = some (.int .i64 an) := hX.cell rfl
            have fhX1 : w53.cell? ⟨X, 1, none⟩ = some (.int .i64 al) := hX.cell rfl
            go_wp2_with fail
            refine (cnext_at (by exact hv) e HX.out).mono ?_
            rintro en w54 ⟨rfl, b54⟩
            have hC := BlkAt.below (by exact hC) b54
            have hS := BlkAt.below (by exact hS) b54
            have hX := BlkAt.below (by exact hX) b54
            have hY := BlkAt.below (by exact hY) b54
            have hv := hv.below b54
            have hb := below_step hb b54
            clear fhC0 fhC1 fhX0 fhX1 b54
            go_upto_region 11 with (fail)
            have hZ := BlkAt.new w54 27 [.int .i64 xn, .int .i64 xl]
            have hC := hC.alloc (.cells #[.int .i64 xn, .int .i64 xl] 27)
            have hS := hS.alloc (.cells #[.int .i64 xn, .int .i64 xl] 27)
            have hX := hX.alloc (.cells #[.int .i64 xn, .int .i64 xl] 27)
            have hY := hY.alloc (.cells #[.int .i64 xn, .int .i64 xl] 27)
            have hv := hv.alloc (.cells #[.int .i64 xn, .int .i64 xl] 27)
            have hb := hb.alloc hb.size (.cells #[.int .i64 xn, .int .i64 xl] 27)
            change Code.wp _ _ _ _ (w54.alloc (.cells #[.int .i64 xn, .int .i64 xl] 27))
            change BlkAt (w54.alloc (.cells #[.int .i64 xn, .int .i64 xl] 27)) _ _ _ at hZ
            generalize w54.alloc (.cells #[.int .i64 xn, .int .i64 xl] 27) = v54_4 at *
            generalize w54.heap.size = Z at *
            have fhZ0 : v54_4.cell? ⟨Z, 0, none⟩ = some (.int .i64 xn) := hZ.cell rfl
            have fhZ1 : v54_4.cell? ⟨Z, 1, none⟩ = some (.int .i64 xl) := hZ.cell rfl
            have fhS0 : v54_4.cell? ⟨S, 0, none⟩ = some (.int .i64 x) := hS.cell rfl
            have fhS1 : v54_4.cell? ⟨S, 1, none⟩ = some (.int .i64 y) := hS.cell rfl
            have fhS2 : v54_4.cell? ⟨S, 2, none⟩ = some (.bool z) := hS.cell rfl
            have hne := mem_neq_refl x y
            go_upto_region 13 with (fail)
            clear fhZ0 fhZ1 fhS0 fhS1 fhS2
            clear hne
            have HX2 := Lib.hid (KQ.out h2)
            have fhC0 : v54_4.cell? ⟨w.heap.size, 0, none⟩ = some (.int .i64 e) := hC.cell rfl
            have fhC1 : v54_4.cell? ⟨w.heap.size, 1, none⟩ = some (.slice (some ⟨b, off, none⟩) L.length cap) := hC.cell rfl
            have fhY0 : v54_4.cell? ⟨Y, 0, none⟩ = some (.int .i64 bn) := hY.cell rfl
            have fhY1 : v54_4.cell? ⟨Y, 1, none⟩ = some (.int .i64 bl) := hY.cell rfl
            go_wp2_with fail
            refine (cahead_at (by exact hv) e HX2.out).mono ?_
            rintro en w55 ⟨rfl, b55⟩
            have hC := BlkAt.below (by exact hC) b55
            have hS := BlkAt.below (by exact hS) b55
            have hX := BlkAt.below (by exact hX) b55
            have hY := BlkAt.below (by exact hY) b55
            have hZ := BlkAt.below (by exact hZ) b55
            have hv := hv.below b55
            have hb := below_step hb b55
            clear fhC0 fhC1 fhY0 fhY1 b55
            go_upto_region 14 with (fail)
            have hU := BlkAt.new w55 27 [.int .i64 x, .int .i64 y]
            have hC := hC.alloc (.cells #[.int .i64 x, .int .i64 y] 27)
            have hS := hS.alloc (.cells #[.int .i64 x, .int .i64 y] 27)
            have hX := hX.alloc (.cells #[.int .i64 x, .int .i64 y] 27)
            have hY := hY.alloc (.cells #[.int .i64 x, .int .i64 y] 27)
            have hZ := hZ.alloc (.cells #[.int .i64 x, .int .i64 y] 27)
            have hv := hv.alloc (.cells #[.int .i64 x, .int .i64 y] 27)
            have hb := hb.alloc hb.size (.cells #[.int .i64 x, .int .i64 y] 27)
            change Code.wp _ _ _ _ (w55.alloc (.cells #[.int .i64 x, .int .i64 y] 27))
            change BlkAt (w55.alloc (.cells #[.int .i64 x, .int .i64 y] 27)) _ _ _ at hU
            generalize w55.alloc (.cells #[.int .i64 x, .int .i64 y] 27) = v55_5 at *
            generalize w55.heap.size = U at *
            have fhU0 : v55_5.cell? ⟨U, 0, none⟩ = some (.int .i64 x) := hU.cell rfl
            have fhU1 : v55_5.cell? ⟨U, 1, none⟩ = some (.int .i64 y) := hU.cell rfl
            have fhS0 : v55_5.cell? ⟨S, 0, none⟩ = some (.int .i64 x) := hS.cell rfl
            have fhS1 : v55_5.cell? ⟨S, 1, none⟩ = some (.int .i64 y) := hS.cell rfl
            have fhS2 : v55_5.cell? ⟨S, 2, none⟩ = some (.bool z) := hS.cell rfl
            have hne := mem_neq_refl x y
            go_wp2_with fail
            go_roundw
            case rel => exact ⟨k + 1, by omega, by go_num, hC, hv, hb⟩
            case measure => simp [intOf]; omega
          ·
            rw [decide_eq_false h1] at HA
            rw [decide_eq_false h2] at HN
            have h1i : ¬ (0 : Int) < (k : Int) := by omega
            have h2i : ¬ (k : Int) < (L.length : Int) - 1 := by omega
            go_upto_region 6 with (fail)
            have hS := BlkAt.new wr 50 [.int .i64 x, .int .i64 y, .bool z]
            have hC := hC.alloc (.cells #[.int .i64 x, .int .i64 y, .bool z] 50)
            have hv := hv.alloc (.cells #[.int .i64 x, .int .i64 y, .bool z] 50)
            have hb := hb.alloc hb.size (.cells #[.int .i64 x, .int .i64 y, .bool z] 50)
            change Code.wp _ _ _ _ (wr.alloc (.cells #[.int .i64 x, .int .i64 y, .bool z] 50))
            change BlkAt (wr.alloc (.cells #[.int .i64 x, .int .i64 y, .bool z] 50)) _ _ _ at hS
            generalize wr.alloc (.cells #[.int .i64 x, .int .i64 y, .bool z] 50) = v50_1 at *
            generalize wr.heap.size = S at *
            clear s0 s1 s2
            have fhC0 : v50_1.cell? ⟨w.heap.size, 0, none⟩ = some (.int .i64 e) := hC.cell rfl
            have fhC1 : v50_1.cell? ⟨w.heap.size, 1, none⟩ = some (.slice (some ⟨b, off, none⟩) L.length cap) := hC.cell rfl
            have fhS0 : v50_1.cell? ⟨S, 0, none⟩ = some (.int .i64 x) := hS.cell rfl
            have fhS1 : v50_1.cell? ⟨S, 1, none⟩ = some (.int .i64 y) := hS.cell rfl
            have fhS2 : v50_1.cell? ⟨S, 2, none⟩ = some (.bool z) := hS.cell rfl
            go_wp2_with fail
            refine (cahead_at (by exact hv) e HA.out).mono ?_
            rintro en w51 ⟨rfl, b51⟩
            have hC := BlkAt.below (by exact hC) b51
            have hS := BlkAt.below (by exact hS) b51
            have hv := hv.below b51
            have hb := below_step hb b51
            clear fhC0 fhC1 fhS0 fhS1 fhS2 b51
            go_upto_region 7 with (fail)
            have hX := BlkAt.new w51 27 [.int .i64 an, .int .i64 al]
            have hC := hC.alloc (.cells #[.int .i64 an, .int .i64 al] 27)
            have hS := hS.alloc (.cells #[.int .i64 an, .int .i64 al] 27)
            have hv := hv.alloc (.cells #[.int .i64 an, .int .i64 al] 27)
            have hb := hb.alloc hb.size (.cells #[.int .i64 an, .int .i64 al] 27)
            change Code.wp _ _ _ _ (w51.alloc (.cells #[.int .i64 an, .int .i64 al] 27))
            change BlkAt (w51.alloc (.cells #[.int .i64 an, .int .i64 al] 27)) _ _ _ at hX
            generalize w51.alloc (.cells #[.int .i64 an, .int .i64 al] 27) = v51_2 at *
            generalize w51.heap.size = X at *
            have fhC0 : v51_2.cell? ⟨w.heap.size, 0, none⟩ = some (.int .i64 e) := hC.cell rfl
            have fhC1 : v51_2.cell? ⟨w.heap.size, 1, none⟩ = some (.slice (some ⟨b, off, none⟩) L.length cap) := hC.cell rfl
            have fhS0 : v51_2.cell? ⟨S, 0, none⟩ = some (.int .i64 x) := hS.cell rfl
            have fhS1 : v51_2.cell? ⟨S, 1, none⟩ = some (.int .i64 y) := hS.cell rfl
            have fhS2 : v51_2.cell? ⟨S, 2, none⟩ = some (.bool z) := hS.cell rfl
            go_wp2_with fail
            refine (cnext_at (by exact hv) e HN.out).mono ?_
            rintro en w52 ⟨rfl, b52⟩
            have hC := BlkAt.below (by exact hC) b52
            have hS := BlkAt.below (by exact hS) b52
            have hX := BlkAt.below (by exact hX) b52
            have hv := hv.below b52
            have hb := below_step hb b52
            clear fhC0 fhC1 fhS0 fhS1 fhS2 b52
            go_upto_region 8 with (fail)
            have hY := BlkAt.new w52 27 [.int .i64 bn, .int .i64 bl]
            have hC := hC.alloc (.cells #[.int .i64 bn, .int .i64 bl] 27)
            have hS := hS.alloc (.cells #[.int .i64 bn, .int .i64 bl] 27)
            have hX := hX.alloc (.cells #[.int .i64 bn, .int .i64 bl] 27)
            have hv := hv.alloc (.cells #[.int .i64 bn, .int .i64 bl] 27)
            have hb := hb.alloc hb.size (.cells #[.int .i64 bn, .int .i64 bl] 27)
            change Code.wp _ _ _ _ (w52.alloc (.cells #[.int .i64 bn, .int .i64 bl] 27))
            change BlkAt (w52.alloc (.cells #[.int .i64 bn, .int .i64 bl] 27)) _ _ _ at hY
            generalize w52.alloc (.cells #[.int .i64 bn, .int .i64 bl] 27) = v52_3 at *
            generalize w52.heap.size = Y at *
            have fhC0 : v52_3.cell? ⟨w.heap.size, 0, none⟩ = some (.int .i64 e) := hC.cell rfl
            have fhC1 : v52_3.cell? ⟨w.heap.size, 1, none⟩ = some (.slice (some ⟨b, off, none⟩) L.length cap) := hC.cell rfl
            have fhS0 : v52_3.cell? ⟨S, 0, none⟩ = some (.int .i64 x) := hS.cell rfl
            have fhS1 : v52_3.cell? ⟨S, 1, none⟩ = some (.int .i64 y) := hS.cell rfl
            have fhS2 : v52_3.cell? ⟨S, 2, none⟩ = some (.bool z) := hS.cell rfl
            go_wp2_with fail
            refine (cplace_at (by exact hv) e HPL.out).mono ?_
            rintro en w53 ⟨rfl, b53⟩
            have hC := BlkAt.below (by exact hC) b53
            have hS := BlkAt.below (by exact hS) b53
            have hX := BlkAt.below (by exact hX) b53
            have hY := BlkAt.below (by exact hY) b53
            have hv := hv.below b53
            have hb := below_step hb b53
            clear fhC0 fhC1 fhS0 fhS1 fhS2 b53
            obtain ⟨xn, xl, xb, HX⟩ : ∃ xn xl xb, Hid (nextC L an al = (xn, xl, xb)) := ⟨_, _, _, rfl⟩
            have fhC0 : w53.cell? ⟨w.heap.size, 0, none⟩ = some (.int .i64 e) := hC.cell rfl
            have fhC1 : w53.cell? ⟨w.heap.size, 1, none⟩ = some (.slice (some ⟨b, off, none⟩) L.length cap) := hC.cell rfl
            have fhX0 : w53.cell? ⟨X, 0, none⟩ = some (.int .i64 an) := hX.cell rfl
            have fhX1 : w53.cell? ⟨X, 1, none⟩ = some (.int .i64 al) := hX.cell rfl
            go_wp2_with fail
            refine (cnext_at (by exact hv) e HX.out).mono ?_
            rintro en w54 ⟨rfl, b54⟩
            have hC := BlkAt.below (by exact hC) b54
            have hS := BlkAt.below (by exact hS) b54
            have hX := BlkAt.below (by exact hX) b54
            have hY := BlkAt.below (by exact hY) b54
            have hv := hv.below b54
            have hb := below_step hb b54
            clear fhC0 fhC1 fhX0 fhX1 b54
            go_upto_region 11 with (fail)
            have hZ := BlkAt.new w54 27 [.int .i64 xn, .int .i64 xl]
            have hC := hC.alloc (.cells #[.int .i64 xn, .int .i64 xl] 27)
            have hS := hS.alloc (.cells #[.int .i64 xn, .int .i64 xl] 27)
            have hX := hX.alloc (.cells #[.int .i64 xn, .int .i64 xl] 27)
            have hY := hY.alloc (.cells #[.int .i64 xn, .int .i64 xl] 27)
            have hv := hv.alloc (.cells #[.int .i64 xn, .int .i64 xl] 27)
            have hb := hb.alloc hb.size (.cells #[.int .i64 xn, .int .i64 xl] 27)
            change Code.wp _ _ _ _ (w54.alloc (.cells #[.int .i64 xn, .int .i64 xl] 27))
            change BlkAt (w54.alloc (.cells #[.int .i64 xn, .int .i64 xl] 27)) _ _ _ at hZ
            generalize w54.alloc (.cells #[.int .i64 xn, .int .i64 xl] 27) = v54_4 at *
            generalize w54.heap.size = Z at *
            have fhZ0 : v54_4.cell? ⟨Z, 0, none⟩ = some (.int .i64 xn) := hZ.cell rfl
            have fhZ1 : v54_4.cell? ⟨Z, 1, none⟩ = some (.int .i64 xl) := hZ.cell rfl
            have fhS0 : v54_4.cell? ⟨S, 0, none⟩ = some (.int .i64 x) := hS.cell rfl
            have fhS1 : v54_4.cell? ⟨S, 1, none⟩ = some (.int .i64 y) := hS.cell rfl
            have fhS2 : v54_4.cell? ⟨S, 2, none⟩ = some (.bool z) := hS.cell rfl
            have hne := mem_neq_refl x y
            go_upto_region 13 with (fail)
            clear fhZ0 fhZ1 fhS0 fhS1 fhS2
            clear hne
            obtain ⟨yn, yl, yb, HX2⟩ : ∃ yn yl yb, Hid (aheadC L bn bl = (yn, yl, yb)) := ⟨_, _, _, rfl⟩
            have fhC0 : v54_4.cell? ⟨w.heap.size, 0, none⟩ = some (.int .i64 e) := hC.cell rfl
            have fhC1 : v54_4.cell? ⟨w.heap.size, 1, none⟩ = some (.slice (some ⟨b, off, none⟩) L.length cap) := hC.cell rfl
            have fhY0 : v54_4.cell? ⟨Y, 0, none⟩ = some (.int .i64 bn) := hY.cell rfl
            have fhY1 : v54_4.cell? ⟨Y, 1, none⟩ = some (.int .i64 bl) := hY.cell rfl
            go_wp2_with fail
            refine (cahead_at (by exact hv) e HX2.out).mono ?_
            rintro en w55 ⟨rfl, b55⟩
            have hC := BlkAt.below (by exact hC) b55
            have hS := BlkAt.below (by exact hS) b55
            have hX := BlkAt.below (by exact hX) b55
            have hY := BlkAt.below (by exact hY) b55
            have hZ := BlkAt.below (by exact hZ) b55
            have hv := hv.below b55
            have hb := below_step hb b55
            clear fhC0 fhC1 fhY0 fhY1 b55
            go_upto_region 14 with (fail)
            have hU := BlkAt.new w55 27 [.int .i64 yn, .int .i64 yl]
            have hC := hC.alloc (.cells #[.int .i64 yn, .int .i64 yl] 27)
            have hS := hS.alloc (.cells #[.int .i64 yn, .int .i64 yl] 27)
            have hX := hX.alloc (.cells #[.int .i64 yn, .int .i64 yl] 27)
            have hY := hY.alloc (.cells #[.int .i64 yn, .int .i64 yl] 27)
            have hZ := hZ.alloc (.cells #[.int .i64 yn, .int .i64 yl] 27)
            have hv := hv.alloc (.cells #[.int .i64 yn, .int .i64 yl] 27)
            have hb := hb.alloc hb.size (.cells #[.int .i64 yn, .int .i64 yl] 27)
            change Code.wp _ _ _ _ (w55.alloc (.cells #[.int .i64 yn, .int .i64 yl] 27))
            change BlkAt (w55.alloc (.cells #[.int .i64 yn, .int .i64 yl] 27)) _ _ _ at hU
            generalize w55.alloc (.cells #[.int .i64 yn, .int .i64 yl] 27) = v55_5 at *
            generalize w55.heap.size = U at *
            have fhU0 : v55_5.cell? ⟨U, 0, none⟩ = some (.int .i64 yn) := hU.cell rfl
            have fhU1 : v55_5.cell? ⟨U, 1, none⟩ = some (.int .i64 yl) := hU.cell rfl
            have fhS0 : v55_5.cell? ⟨S, 0, none⟩ = some (.int .i64 x) := hS.cell rfl
            have fhS1 : v55_5.cell? ⟨S, 1, none⟩ = some (.int .i64 y) := hS.cell rfl
            have fhS2 : v55_5.cell? ⟨S, 2, none⟩ = some (.bool z) := hS.cell rfl
            have hne := mem_neq_refl x y
            go_wp2_with fail
            go_roundw
            case rel => exact ⟨k + 1, by omega, by go_num, hC, hv, hb⟩
            case measure => simp [intOf]; omega
      · obtain rfl : k = L.length := by omega
        go_wp2_with fail
        go_ret
        exact ⟨rfl, hb⟩

set_option maxRecDepth 100000 in
theorem ConfigBeside_walk {H : Type} {enc : TypeId × Value → H} {base : Nat} {d : DataW H} {p : List MemPlace} (v : Value) (w : World) (hv : Value.okWide Try.prog w .any base 24 v) (ht : DataW.Trod enc Try.prog w 0 (fun _ => true) true 24 v d p) :
    Calls Try.prog 8 #[v] w fun e w' => e = .returned (.bool true) ∧ Below w.heap.size w w' := by
  obtain ⟨e, a, cap, L, he, hc, rfl⟩ := open_conf hv ht
  exact ConfigBeside_go hc


set_option maxRecDepth 100000 in
theorem ConfigBeside_calls (H : Type) (enc : TypeId × Value → H) (W : World) (base : Nat) (args : Array Value) (ds gs : List (DataW H)) (before : List MemPlace)
    (hval : ∀ (j : Nat) t v, Try.f8.params[j]? = some t → args[j]? = some v → Value.okWide Try.prog W .any base t v)
    (hW : DataW.Whole enc Try.prog Try.f8.params.toList Rows.configBesideSpec.vars false W args.toList ds gs before) :
    Calls Try.prog 8 args W fun e W' => e = .returned (.bool true) ∧ Below W.heap.size W W' := by
  obtain ⟨p, q, hA, hV, rfl, hfz, hnd⟩ := hW
  rw [Try.params8] at hA hval
  obtain ⟨v0, vs0, d0, ds0, p0, q0, hargs, rfl, rfl, h0, r0⟩ := trodAll_cons hA
  obtain ⟨rfl, rfl, rfl⟩ := trodAll_nil r0
  obtain rfl : args = #[v0] := Array.toList_inj.1 hargs

  exact ConfigBeside_walk v0 W (hval 0 24 v0 rfl rfl) h0

set_option maxRecDepth 100000 in
theorem ConfigBeside_lifted (os : Os) (started : os.Started) (H : Type) (enc : TypeId × Value → H) :
    ReturnsInHanded {} Try.checked os 8 .any (Rows.configBesideSpec.pre6 enc Try.prog Try.f8 Rows.configBesideRow.domain false) (Rows.configBesideSpec.post enc Try.prog Try.f8 false true false false) := by
  refine returnsInHanded_of_change (C := Try.checked) own started (by kernel_rfl) Try.func8
    (ChangeSpec.witness6 (enc := enc) (C := Try.checked) false ⟨#[], #[.agg #[.int .i64 0, .slice none 0 0]], []⟩ 8 (by kernel_rfl) (by kernel_rfl) (by kernel_rfl) (by kernel_rfl)) ?_
  intro W base args ds gs before hval0 hW hcnd _
  have hval : ∀ (j : Nat) t v, Try.f8.params[j]? = some t → args[j]? = some v → Value.okWide Try.prog W .any base t v := hval0
  refine (ConfigBeside_calls H enc W base args ds gs before hval hW).mono fun e W' ⟨he, bel⟩ => ?_
  exact ⟨_, he, law_post (ts := [24]) (by rw [Try.params8]) (by intro t ht; simp only [List.mem_cons, List.not_mem_nil, or_false] at ht; subst ht <;> exact ⟨by kernel_rfl, of_decide_eq_true (by kernel_rfl)⟩) hW rfl
    (fun ds h => by match ds, h with | [_], _ => rfl) (by kernel_rfl) bel⟩

theorem ConfigBeside_over : Rows.configBesideRow.holds Try.pinned (OpenSpec.ofChange Rows.configBesideSpec) :=
  OpenClaim.holds_of_wide 8 Try.f8 rfl rfl rfl rfl rfl rfl rfl ⟨rfl, rfl, rfl, rfl, rfl⟩ rfl rfl rfl rfl rfl (by kernel_rfl) Try.func8 (by kernel_rfl)
    (of_decide_eq_true (by kernel_rfl)) (by unfold Func.isWrapper; first | (rw [if_pos (by decide +kernel)]; kernel_rfl) | (rw [if_neg (by decide +kernel)]; exact ⟨rfl, rfl⟩))
    (fun os started H enc _ => ConfigBeside_lifted os started H enc)

/-- The statement. -/
theorem ConfigBeside_proved : Rows.ConfigBesideSaid := ConfigBeside_over

end Go.Proofs.Ytofdmdpnobhnlaa
