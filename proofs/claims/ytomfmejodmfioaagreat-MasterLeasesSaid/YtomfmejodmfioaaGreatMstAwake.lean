/- The law's first line: answers that the document fixes. -/
import Derived.Test.YtomfmejodmfioaaGreatMstHeld
namespace Go.Proofs.YtomfmejodmfioaaGreat
open Go.RowKit Go.Maps Go.ChangeShapes Go.WideShapes Go.Joins Go.Deep
set_option linter.unusedVariables false


theorem at15_next {j k : Nat} (h : k = j + 1) : at15 k = round15 (at15 j) (k : Nat) := by
  subst h
  show round15 (at15 j) ((j : Int) + 1) = _
  rw [Int.natCast_add]
  rfl
set_option maxRecDepth 100000 in
set_option maxHeartbeats 8000000 in

theorem awake15_any (w : World) : Calls Tryz.prog 9 #[] w fun e w' => e = .returned (.bool true) ∧ Below w.heap.size w w' := by
  go_enter Tryz.func9, Tryz.ntmps9
  go_wp2_with fail
  refine (new_log _).mono ?_
  rintro en w2 ⟨lb, rfl, hlog, b2⟩
  go_wp2_with fail
  refine (setup15_any _).mono ?_
  rintro en w3 ⟨rfl, b3⟩
  have hlog3 := hlog.below b3
  have HB3 := Lib.hid (below_step b2 b3)
  clear hlog b2 b3
  go_wp2_with fail
  refine (mnew_any (s := set3) (by exact hlog3) rfl).mono ?_
  rintro en w4 ⟨x, b, rfl, hlb, hM, hF, hFN⟩
  have hA : AwkS w w4 x lb (at15 0) 100 1000 := ⟨b, _, _, hlb, OwnM.first HB3.out (Nat.le_refl _) hlog3.1 hM hF hFN, begin_inv set3 rfl, Nat.le_trans (conf_small (c := (firstC set3.nodes).1) (by decide)).2 (by decide)⟩
  clear hlog3 HB3 hM hF hFN hlb b
  go_wp2_with fail
  go_loopw [4, 5] (fun sv i wr => ∃ (k j : Nat), k = j + 1 ∧ k ≤ 7 ∧ i = .int .i64 k ∧ sv = .int .i64 (3 * j : Nat) ∧ AwkS w wr x lb (at15 j) (100 + 1200 * j) (1000 + 700 * j)) (fun _ i _ => 7 - (intOf i).toNat)
  case atStart => exact ⟨1, 0, rfl, by omega, rfl, rfl, hA⟩
  case round =>
    obtain ⟨k, j, hkj, hk, rfl, rfl, hAr⟩ := hrel
    have HKJ := Lib.hid hkj
    clear hkj
    clear hA
    have hA := hAr
    clear hAr
    by_cases hlt : k ≤ 6
    · have hlt' : (k : Int) ≤ 6 := by omega
      go_wp2_with fail
      refine (beat15_any 0 1 (bt15 (k : Nat)) _).mono ?_
      rintro en w5 ⟨rfl, b5⟩
      have hA5 := hA.below b5
      have hK5 := KeepB.of_below b5
      clear hA b5
      go_wp2_with fail
      refine (awk_take (by exact hA5) (by have := HKJ.out; omega) (by have := HKJ.out; omega) ⟨by omega, by omega⟩ ⟨by omega, by omega⟩).mono ?_
      rintro en w6 ⟨⟨A6, k6, c6, rfl⟩, hA6, hK6⟩
      have hKq := hK5.trans hK6
      clear hA5 hK5 hK6
      go_wp2_with fail
      refine (beat15_any 2 1 (bt15 (k : Nat)) _).mono ?_
      rintro en w7 ⟨rfl, b7⟩
      have hA7 := hA6.below b7
      have hKr := hKq.trans (KeepB.of_below b7)
      clear hA6 b7 hKq
      go_wp2_with fail
      refine (awk_take (by exact hA7) (by have := HKJ.out; omega) (by have := HKJ.out; omega) ⟨by omega, by omega⟩ ⟨by omega, by omega⟩).mono ?_
      rintro en w8 ⟨⟨A8, k8, c8, rfl⟩, hA8, hK8⟩
      have hKs := hKr.trans hK8
      clear hA7 hKr hK8
      go_wp2_with fail
      refine (awk_tick (by exact hA8) (by have := HKJ.out; omega) (by have := HKJ.out; omega) ⟨by omega, by omega⟩).mono ?_
      rintro en w9 ⟨⟨A9, c9, rfl⟩, hA9, hK9⟩
      have hKt := hKs.trans hK9
      clear hA8 hKs hK9
      clear hKt
      rw [show annM (turnV (take15 (take15 (at15 j) 0 (k : Nat)) 2 (k : Nat)) (k : Nat)) (k : Nat) = at15 k from (at15_next HKJ.out).symm] at hA9 ⊢
      rw [show (at15 k).cf = ⟨1, firstSeats 3⟩ from at15_low ⟨k, by omega⟩, show (firstSeats 3).length = 3 from rfl]
      have HA := Lib.hid hA9
      clear hA9
      go_wp2_with fail
      go_roundw
      case rel => exact ⟨k + 1, k, rfl, by omega, by go_num, (by have h9 := HKJ.out; rw [IntWalk.wrap64_in _ ⟨by omega, by omega⟩]; exact congrArg _ (by omega)), by
        have := HKJ.out
        obtain ⟨b, l, cs, h1, h2, h3, h4⟩ := HA.out
        exact ⟨b, l, cs, h1, h2.mono (by omega), h3, by omega⟩⟩
      case measure => simp [intOf]; omega
    · have hlt' : ¬ (k : Int) ≤ 6 := by omega
      obtain rfl : j = 6 := by have := HKJ.out; omega
      go_wp2_with fail
      refine (awk_conf (by exact hA) (show (at15 6).cf = ⟨1, firstSeats 3⟩ from at15_low 6) (show (firstSeats 3).length = 3 from rfl)).mono ?_
      rintro en w10 ⟨A, cap, rfl, hC, hb⟩
      have hA1 := hA.below hb
      clear hA hC
      have hA := hA1
      clear hA1
      go_upto_region 13 with (fail)
      have hZ := BlkAt.new w10 35 [.int .i64 1, .slice A 3 cap]
      replace hA := hA.below ((Below.refl _ _).alloc (Nat.le_refl _) (.cells #[.int .i64 1, .slice A 3 cap] 35))
      replace hb := hb.alloc hb.size (.cells #[.int .i64 1, .slice A 3 cap] 35)
      change Code.wp _ _ _ _ (w10.alloc (.cells #[.int .i64 1, .slice A 3 cap] 35))
      change BlkAt (w10.alloc (.cells #[.int .i64 1, .slice A 3 cap] 35)) _ _ _ at hZ
      have hZn := (show w10.heap.size ≤ w10.heap.size from Nat.le_refl _)
      generalize w10.alloc (.cells #[.int .i64 1, .slice A 3 cap] 35) = w11 at *
      generalize w10.heap.size = Z at hZ ⊢
      clear hZn
      clear hb hlt hlt' HKJ hk
      go_wp2_with fail
      go_loopw [7] (fun i wr => ∃ (k j : Nat), k = j + 1 ∧ 7 ≤ k ∧ k ≤ 10 ∧ i = .int .i64 k ∧ AwkS w wr x lb (at15 j) (100 + 1200 * j) (1000 + 700 * j) ∧ BlkAt wr Z 35 [.int .i64 1, .slice A 3 cap]) (fun i _ => 10 - (intOf i).toNat)
      case atStart => exact ⟨7, 6, rfl, by omega, by omega, rfl, hA, hZ⟩
      case round =>
        obtain ⟨k, j, hkj, hk7, hk, rfl, hAr, hZr⟩ := hrel
        have HKJ := Lib.hid hkj
        clear hkj
        clear hA hZ
        have hA := hAr
        have hZ := hZr
        clear hAr hZr
        by_cases hlt : k ≤ 9
        · have hlt' : (k : Int) ≤ 9 := by omega
          go_wp2_with fail
          refine (beat15_any 0 1 (bt15 (k : Nat)) _).mono ?_
          rintro en w5 ⟨rfl, b5⟩
          have hA5 := hA.below b5
          have hK5 := KeepB.of_below b5
          clear hA b5
          go_wp2_with fail
          refine (awk_take (by exact hA5) (by have := HKJ.out; omega) (by have := HKJ.out; omega) ⟨by omega, by omega⟩ ⟨by omega, by omega⟩).mono ?_
          rintro en w6 ⟨⟨A6, k6, c6, rfl⟩, hA6, hK6⟩
          have hKq := hK5.trans hK6
          clear hA5 hK5 hK6
          go_wp2_with fail
          refine (beat15_any 2 1 (bt15 (k : Nat)) _).mono ?_
          rintro en w7 ⟨rfl, b7⟩
          have hA7 := hA6.below b7
          have hKr := hKq.trans (KeepB.of_below b7)
          clear hA6 b7 hKq
          go_wp2_with fail
          refine (awk_take (by exact hA7) (by have := HKJ.out; omega) (by have := HKJ.out; omega) ⟨by omega, by omega⟩ ⟨by omega, by omega⟩).mono ?_
          rintro en w8 ⟨⟨A8, k8, c8, rfl⟩, hA8, hK8⟩
          have hKs := hKr.trans hK8
          clear hA7 hKr hK8
          go_wp2_with fail
          refine (awk_tick (by exact hA8) (by have := HKJ.out; omega) (by have := HKJ.out; omega) ⟨by omega, by omega⟩).mono ?_
          rintro en w9 ⟨⟨A9, c9, rfl⟩, hA9, hK9⟩
          have hKt := hKs.trans hK9
          clear hA8 hKs hK9
          rw [show annM (turnV (take15 (take15 (at15 j) 0 (k : Nat)) 2 (k : Nat)) (k : Nat)) (k : Nat) = at15 k from (at15_next HKJ.out).symm] at hA9 ⊢
          have HA := Lib.hid hA9
          have HZ := Lib.hid (hZ.keepB hKt (by decide) (by decide) (by decide) (by decide))
          clear hA9 hZ hKt
          go_wp2_with fail
          go_roundw
          case rel => exact ⟨k + 1, k, rfl, by omega, by omega, by go_num, (by
            have := HKJ.out
            obtain ⟨b, l, cs, h1, h2, h3, h4⟩ := HA.out
            exact ⟨b, l, cs, h1, h2.mono (by omega), h3, by omega⟩), HZ.out⟩
          case measure => simp [intOf]; omega
        · have hlt' : ¬ (k : Int) ≤ 9 := by omega
          obtain rfl : j = 9 := by have := HKJ.out; omega
          go_wp2_with fail
          refine (awk_conf (by exact hA) at15_nine (n := 2) rfl).mono ?_
          rintro en w12 ⟨A2, cap2, rfl, hC2, hb⟩
          have hA1 := hA.below hb
          have hZ1 := hZ.below hb
          clear hA hZ
          have hA := hA1
          have hZ := hZ1
          clear hA1 hZ1
          go_upto_region 20 with (fail)
          have hZ2 := BlkAt.new w12 35 [.int .i64 2, .slice A2 2 cap2]
          replace hA := hA.below ((Below.refl _ _).alloc (Nat.le_refl _) (.cells #[.int .i64 2, .slice A2 2 cap2] 35))
          replace hZ := hZ.below ((Below.refl _ _).alloc (Nat.le_refl _) (.cells #[.int .i64 2, .slice A2 2 cap2] 35))
          replace hC2 := hC2.below ((Below.refl _ _).alloc (Nat.le_refl _) (.cells #[.int .i64 2, .slice A2 2 cap2] 35))
          replace hb := hb.alloc hb.size (.cells #[.int .i64 2, .slice A2 2 cap2] 35)
          change Code.wp _ _ _ _ (w12.alloc (.cells #[.int .i64 2, .slice A2 2 cap2] 35))
          change BlkAt (w12.alloc (.cells #[.int .i64 2, .slice A2 2 cap2] 35)) _ _ _ at hZ2
          have hZ2n := (show w12.heap.size ≤ w12.heap.size from Nat.le_refl _)
          generalize w12.alloc (.cells #[.int .i64 2, .slice A2 2 cap2] 35) = w13 at *
          generalize w12.heap.size = Z2 at hZ2 ⊢
          clear hZ2n
          clear hb hlt hlt' HKJ hk hk7
          go_wp2_with fail
          refine (setup15_any _).mono ?_
          rintro en w14 ⟨rfl, b14⟩
          have hA1 := hA.below b14
          have hZ1 := hZ.below b14
          have hZ21 := hZ2.below b14
          have hC21 := hC2.below b14
          clear hA hZ hZ2 hC2 b14
          go_wp2_with fail
          refine (awk_recover (by exact hA1) (now := 9) (by omega)).mono ?_
          rintro en w15 ⟨y, rfl, ⟨V', hcf', hA⟩, hKp⟩
          have hcf : V'.cf = ⟨2, [⟨0, 1, true⟩, ⟨2, 1, true⟩]⟩ := hcf'.trans at15_nine
          have hZ := hZ1.keepB hKp (by decide) (by decide) (by decide) (by decide)
          have hZ2 := hZ21.keepB hKp (by decide) (by decide) (by decide) (by decide)
          have hC2 := hC21.keepB hKp
          clear hA1 hZ1 hZ21 hC21 hKp hcf'
          obtain ⟨a2, cp2, he2, hs2⟩ := hC2.1
          obtain ⟨q, off, hq, hqlt, hcells⟩ := hs2.2.2 (by simp)
          injection he2 with e1 e2 e3
          subst e1 hq
          have hq3 : w15.cell? ⟨q, off + 3, none⟩ = some (.int .i64 2) := (hcells 1 ⟨2, 1, true⟩ rfl).1
          clear e2 e3 hs2 hcells
          go_upto_region 21 with (fail)
          have bd : Below w15.heap.size w15 w15.drew := below_drewN (Below.refl _ _) 1
          have hA1 := hA.below bd
          have hZ1 := hZ.below bd
          have hZ21 := hZ2.below bd
          have hC21 := hC2.below bd
          have hq31 : w15.drew.cell? ⟨q, off + 3, none⟩ = some (.int .i64 2) := hq3
          have hqlt1 : q < w15.drew.heap.size := hqlt
          clear hA hZ hZ2 hC2 hq3 hqlt bd
          have hA := hA1
          have hZ := hZ1
          have hZ2 := hZ21
          have hC2 := hC21
          have hq3 := hq31
          have hqlt := hqlt1
          clear hA1 hZ1 hZ21 hC21 hq31 hqlt1
          refine wp_region_noPanic ?_
          refine wp_region_held_drew (S := (fun w' => w'.cell? ⟨Z, 0, none⟩ = some (.int .i64 1) ∧ w'.cell? ⟨Z2, 0, none⟩ = some (.int .i64 2) ∧ w'.cell? ⟨Z2, 1, none⟩ = some (.slice (some ⟨q, off, none⟩) 2 cap2) ∧ w'.cell? ⟨q, off + 3, none⟩ = some (.int .i64 2))) (by kernel_rfl) (by exact ⟨hZ.cell rfl, hZ2.cell rfl, hZ2.cell rfl, hq3⟩) (fun hHeld => ?_)
          refine wtk 0 hHeld ?_
          refine wtk 1 hHeld ?_
          refine wtk 2 hHeld ?_
          refine wtk 3 hHeld ?_
          refine wtk 4 hHeld ?_
          refine wtk 5 hHeld ?_
          refine wtk 6 hHeld ?_
          refine wtk 7 hHeld ?_
          refine wtk 8 hHeld ?_
          refine wtk 9 hHeld ?_
          refine wtk 10 hHeld ?_
          refine wtk 11 hHeld ?_
          refine wtk 12 hHeld ?_
          refine wtk 13 hHeld ?_
          refine wtk 14 hHeld ?_
          refine wtk 15 hHeld ?_
          refine wtk 16 hHeld ?_
          refine wtk 17 hHeld ?_
          refine wtk 18 hHeld ?_
          refine wtk 19 hHeld ?_
          refine wtk 20 hHeld ?_
          refine wtk 21 hHeld ?_
          refine wtk 22 hHeld ?_
          refine wtk 23 hHeld ?_
          refine wtk 24 hHeld ?_
          refine wtk 25 hHeld ?_
          refine wtk 26 hHeld ?_
          refine wtk 27 hHeld ?_
          refine wtk 28 hHeld ?_
          refine wtk 29 hHeld ?_
          refine wtk 30 hHeld ?_
          refine wtk 31 hHeld ?_
          refine wtk 32 hHeld ?_
          refine wtk 34 hHeld ?_
          refine wpAnyH_ready (rs := [33]) (by kernel_rfl) (by simp) (AllReadyH.cons (o := ?oq_1_33) ?op_1_33 (fun K hK => ?re_1_33) AllReadyH.nil)
          case op_1_33 => (simp only [List.getElem?_toArray, List.getElem?_cons_succ, List.getElem?_cons_zero]; rfl)
          go_simp
          go_at_call 13
          refine (awk_conf (by exact hA) hcf rfl).mono ?_
          rintro en w20 ⟨A3, cap3, rfl, hC3, bz⟩
          replace hA := hA.below bz
          replace hZ := hZ.below bz
          replace hZ2 := hZ2.below bz
          replace hC2 := hC2.below bz
          have hq3q := (bz.cell (p := ⟨q, off + 3, none⟩) hqlt).trans hq3
          have hqltq := Nat.lt_of_lt_of_le hqlt bz.size
          clear hq3 hqlt
          have hq3 := hq3q
          have hqlt := hqltq
          clear hq3q hqltq bz
          refine hK.out _ _ (by exact ⟨hZ.cell rfl, hZ2.cell rfl, hZ2.cell rfl, hq3⟩) (fun hHeld => ?_)
          clear hK K
          try simp only [Act.put, List.setIfInBounds_toArray, List.set_cons_zero, List.set_cons_succ]
          refine wpAnyH_ready (rs := [35]) (by kernel_rfl) (by simp) (AllReadyH.cons (o := ?oq_1_35) ?op_1_35 (fun K hK => ?re_1_35) AllReadyH.nil)
          case op_1_35 => (simp only [List.getElem?_toArray, List.getElem?_cons_succ, List.getElem?_cons_zero]; rfl)
          go_simp
          go_at_call 17
          refine (qcsame_at (by exact hC3.1) (by exact hC2.1) (b := true) (sameC_iff.2 rfl)).mono ?_
          rintro en w21 ⟨rfl, bz⟩
          replace hA := hA.below bz
          replace hZ := hZ.below bz
          replace hZ2 := hZ2.below bz
          have hq3q := (bz.cell (p := ⟨q, off + 3, none⟩) hqlt).trans hq3
          clear hq3 hqlt
          have hq3 := hq3q
          clear hq3q bz
          refine hK.out _ _ (by exact ⟨hZ.cell rfl, hZ2.cell rfl, hZ2.cell rfl, hq3⟩) (fun hHeld => ?_)
          clear hK K
          try simp only [Act.put, List.setIfInBounds_toArray, List.set_cons_zero]
          refine wtk 36 hHeld ?_
          refine wtk 37 hHeld ?_
          refine wpAnyH_done (by kernel_rfl) ?_ _
          refine NoPanic.normal ?_
          clear hHeld
          have HL := Lib.hid hA.low
          clear hA hZ hZ2 hq3
          go_wp2_with fail
          go_ret
          exact ⟨rfl, HL.out⟩
end Go.Proofs.YtomfmejodmfioaaGreat
