/- The law's first line: answers that the document fixes. -/
import Derived.Test.YtomfmejodmfioaaGreatMstHeld
namespace Go.Proofs.YtomfmejodmfioaaGreat
open Go.RowKit Go.Maps Go.ChangeShapes Go.WideShapes Go.Joins Go.Deep
set_option linter.unusedVariables false

theorem at15_next {j k : Nat} (h : k = j + 1) : at15 k = round15 (at15 j) (k : Nat) := by
  subst h
  show round15 (at15 j) ((j : Int) + 1) = _
  rw [Int.natCast_add]
  rfl
set_option maxRecDepth 100000 in
set_option maxHeartbeats 8000000 in

theorem awake15_any (w : World) : Calls Tryz.prog 9 #[] w fun e w' => e = .returned (.bool true) ∧ Below w.heap.size w w' := by
  go_enter Tryz.func9, Tryz.ntmps9
  go_wp2_with fail
  refine (new_log _).mono ?_
  rintro en w2 ⟨lb, rfl, hlog, b2⟩
  go_wp2_with fail
  refine (setup15_any _).mono ?_
  rintro en w3 ⟨rfl, b3⟩
  have hlog3 := hlog.below b3
  have HB3 := Lib.hid (below_step b2 b3)
  clear hlog b2 b3
  go_wp2_with fail
  refine (mnew_any (s := set3) (by exact hlog3) rfl).mono ?_
  rintro en w4 ⟨x, b, rfl, hlb, hM, hF, hFN⟩
  have hA : AwkS w w4 x lb (at15 0) 100 1000 := ⟨b, _, _, hlb, OwnM.first HB3.out (Nat.le_refl _) hlog3.1 hM hF hFN, begin_inv set3 rfl, Nat.le_trans (conf_small (c := (firstC set3.nodes).1) (by decide)).2 (by decide)⟩
  clear hlog3 HB3 hM hF hFN hlb b
  go_wp2_with fail
  go_loopw [4, 5] (fun sv i wr => ∃ (k j : Nat), k = j + 1 ∧ k ≤ 7 ∧ i = .int .i64 k ∧ sv = .int .i64 (3 * j : Nat) ∧ AwkS w wr x lb (at15 j) (100 + 1200 * j) (1000 + 700 * j)) (fun _ i _ => 7 - (intOf i).toNat)
  case atStart => exact ⟨1, 0, rfl, by omega, rfl, rfl, hA⟩
  case round =>
    obtain ⟨k, j, hkj, hk, rfl, rfl, hAr⟩ := hrel
    have HKJ := Lib.hid hkj
    clear hkj
    clear hA
    have hA := hAr
    clear hAr
    by_cases hlt : k ≤ 6
    · have hlt' : (k : Int) ≤ 6 := by omega
      go_wp2_with fail
      refine (beat15_any 0 1 (bt15 (k : Nat)) _).mono ?_
      rintro en w5 ⟨rfl, b5⟩
      have hA5 := hA.below b5
      have hK5 := KeepB.of_below b5
      clear hA b5
      go_wp2_with fail
      refine (awk_take (by exact hA5) (by have := HKJ.out; omega) (by have := HKJ.out; omega) ⟨by omega, by omega⟩ ⟨by omega, by omega⟩).mono ?_
      rintro en w6 ⟨⟨A6, k6, c6, rfl⟩, hA6, hK6⟩
      have hKq := hK5.trans hK6
      clear hA5 hK5 hK6
      go_wp2_with fail
      refine (beat15_any 2 1 (bt15 (k : Nat)) _).mono ?_
      rintro en w7 ⟨rfl, b7⟩
      have hA7 := hA6.below b7
      have hKr := hKq.trans (KeepB.of_below b7)
      clear hA6 b7 hKq
      go_wp2_with fail
      refine (awk_take (by exact hA7) (by have := HKJ.out; omega) (by have := HKJ.out; omega) ⟨by omega, by omega⟩ ⟨by omega, by omega⟩).mono ?_
      rintro en w8 ⟨⟨A8, k8, c8, rfl⟩, hA8, hK8⟩
      have hKs := hKr.trans hK8
      clear hA7 hKr hK8
      go_wp2_with fail
      refine (awk_tick (by exact hA8) (by have := HKJ.out; omega) (by have := HKJ.out; omega) ⟨by omega, by omega⟩).mono ?_
      rintro en w9 ⟨⟨A9, c9, rfl⟩, hA9, hK9⟩
      have hKt := hKs.trans hK9
      clear hA8 hKs hK9
      clear hKt
      rw [show annM (turnV (take15 (take15 (at15 j) 0 (k : Nat)) 2 (k : Nat)) (k : Nat)) (k : Nat) = at15 k from (at15_next HKJ.out).symm] at hA9 ⊢
      rw [show (at15 k).cf = ⟨1, firstSeats 3⟩ from at15_low ⟨k, by omega⟩, show (firstSeats 3).length = 3 from rfl]
      have HA := Lib.hid hA9
      clear hA9
      go_wp2_with fail
      go_roundw
      case rel => exact ⟨k + 1, k, rfl, by omega, by go_num, (by have h9 := HKJ.out; rw [IntWalk.wrap64_in _ ⟨by omega, by omega⟩]; exact congrArg _ (by omega)), by
        have := HKJ.out
        obtain ⟨b, l, cs, h1, h2, h3, h4⟩ := HA.out
        exact ⟨b, l, cs, h1, h2.mono (by omega), h3, by omega⟩⟩
      case measure => simp [intOf]; omega
    · have hlt' : ¬ (k : Int) ≤ 6 := by omega
      obtain rfl : j = 6 := by have := HKJ.out; omega
      go_wp2_with fail
      refine (awk_conf (by exact hA) (show (at15 6).cf = ⟨1, firstSeats 3⟩ from at15_low 6) (show (firstSeats 3).length = 3 from rfl)).mono ?_
      rintro en w10 ⟨A, cap, rfl, hC, hb⟩
      have hA1 := hA.below hb
      clear hA hC
      have hA := hA1
      clear hA1
      go_upto_region 13 with (fail)
      have hZ := BlkAt.new w10 35 [.int .i64 1, .slice A 3 cap]
      have hAq := hA.below ((Below.refl _ _).alloc (Nat.le_refl _) (.cells #[.int .i64 1, .slice A 3 cap] 35))
      clear hA
      have hA := hAq
      clear hAq
      have hbq := hb.alloc hb.size (.cells #[.int .i64 1, .slice A 3 cap] 35)
      clear hb
      have hb := hbq
      clear hbq
      change Code.wp _ _ _ _ (w10.alloc (.cells #[.int .i64 1, .slice A 3 cap] 35))
      change BlkAt (w10.alloc (.cells #[.int .i64 1, .slice A 3 cap] 35)) _ _ _ at hZ
      have hZn := (show w10.heap.size ≤ w10.heap.size from Nat.le_refl _)
      generalize w10.alloc (.cells #[.int .i64 1, .slice A 3 cap] 35) = w11 at *
      generalize w10.heap.size = Z at hZ ⊢
      clear hZn
      clear hb hlt hlt' HKJ hk
      go_wp2_with fail
      go_loopw [7] (fun i wr => ∃ (k j : Nat), k = j + 1 ∧ 7 ≤ k ∧ k ≤ 10 ∧ i = .int .i64 k ∧ AwkS w wr x lb (at15 j) (100 + 1200 * j) (1000 + 700 * j) ∧ BlkAt wr Z 35 [.int .i64 1, .slice A 3 cap]) (fun i _ => 10 - (intOf i).toNat)
      case atStart => exact ⟨7, 6, rfl, by omega, by omega, rfl, hA, hZ⟩
      case round =>
        obtain ⟨k, j, hkj, hk7, hk, rfl, hAr, hZr⟩ := hrel
        have HKJ := Lib.hid hkj
        clear hkj
        clear hA hZ
        have hA := hAr
        have hZ := hZr
        clear hAr hZr
        by_cases hlt : k ≤ 9
        · have hlt' : (k : Int) ≤ 9 := by omega
          go_wp2_with fail
          refine (beat15_any 0 1 (bt15 (k : Nat)) _).mono ?_
          rintro en w5 ⟨rfl, b5⟩
          have hA5 := hA.below b5
          have hK5 := KeepB.of_below b5
          clear hA b5
          go_wp2_with fail
          refine (awk_take (by exact hA5) (by have := HKJ.out; omega) (by have := HKJ.out; omega) ⟨by omega, by omega⟩ ⟨by omega, by omega⟩).mono ?_
          rintro en w6 ⟨⟨A6, k6, c6, rfl⟩, hA6, hK6⟩
          have hKq := hK5.trans hK6
          clear hA5 hK5 hK6
          go_wp2_with fail
          refine (beat15_any 2 1 (bt15 (k : Nat)) _).mono ?_
          rintro en w7 ⟨rfl, b7⟩
          have hA7 := hA6.below b7
          have hKr := hKq.trans (KeepB.of_below b7)
          clear hA6 b7 hKq
          go_wp2_with fail
          refine (awk_take (by exact hA7) (by have := HKJ.out; omega) (by have := HKJ.out; omega) ⟨by omega, by omega⟩ ⟨by omega, by omega⟩).mono ?_
          rintro en w8 ⟨⟨A8, k8, c8, rfl⟩, hA8, hK8⟩
          have hKs := hKr.trans hK8
          clear hA7 hKr hK8
          go_wp2_with fail
          refine (awk_tick (by exact hA8) (by have := HKJ.out; omega) (by have := HKJ.out; omega) ⟨by omega, by omega⟩).mono ?_
          rintro en w9 ⟨⟨A9, c9, rfl⟩, hA9, hK9⟩
          have hKt := hKs.trans hK9
          clear hA8 hKs hK9
          rw [show annM (turnV (take15 (take15 (at15 j) 0 (k : Nat)) 2 (k : Nat)) (k : Nat)) (k : Nat) = at15 k from (at15_next HKJ.out).symm] at hA9 ⊢
          have HA := Lib.hid hA9
          have HZ := Lib.hid (hZ.keepB hKt (by decide) (by decide) (by decide) (by decide))
          clear hA9 hZ hKt
          go_wp2_with fail
          go_roundw
          case rel => exact ⟨k + 1, k, rfl, by omega, by omega, by go_num, (by
            have := HKJ.out
            obtain ⟨b, l, cs, h1, h2, h3, h4⟩ := HA.out
            exact ⟨b, l, cs, h1, h2.mono (by omega), h3, by omega⟩), HZ.out⟩
          case measure => simp [intOf]; omega
        · have hlt' : ¬ (k : Int) ≤ 9 := by omega
          obtain rfl : j = 9 := by have := HKJ.out; omega
          go_wp2_with fail
          refine (awk_conf (by exact hA) at15_nine (n := 2) rfl).mono ?_
          rintro en w12 ⟨A2, cap2, rfl, hC2, hb⟩
          have hA1 := hA.below hb
          have hZ1 := hZ.below hb
          clear hA hZ
          have hA := hA1
          have hZ := hZ1
          clear hA1 hZ1
          go_upto_region 20 with (fail)
          have hZ2 := BlkAt.new w12 35 [.int .i64 2, .slice A2 2 cap2]
          have hAq := hA.below ((Below.refl _ _).alloc (Nat.le_refl _) (.cells #[.int .i64 2, .slice A2 2 cap2] 35))
          clear hA
          have hA := hAq
          clear hAq
          have hZq := hZ.below ((Below.refl _ _).alloc (Nat.le_refl _) (.cells #[.int .i64 2, .slice A2 2 cap2] 35))
          clear hZ
          have hZ := hZq
          clear hZq
          have hC2q := hC2.below ((Below.refl _ _).alloc (Nat.le_refl _) (.cells #[.int .i64 2, .slice A2 2 cap2] 35))
          clear hC2
          have hC2 := hC2q
          clear hC2q
          have hbq := hb.alloc hb.size (.cells #[.int .i64 2, .slice A2 2 cap2] 35)
          clear hb
          have hb := hbq
          clear hbq
          change Code.wp _ _ _ _ (w12.alloc (.cells #[.int .i64 2, .slice A2 2 cap2] 35))
          change BlkAt (w12.alloc (.cells #[.int .i64 2, .slice A2 2 cap2] 35)) _ _ _ at hZ2
          have hZ2n := (show w12.heap.size ≤ w12.heap.size from Nat.le_refl _)
          generalize w12.alloc (.cells #[.int .i64 2, .slice A2 2 cap2] 35) = w13 at *
          generalize w12.heap.size = Z2 at hZ2 ⊢
          clear hZ2n
          clear hb hlt hlt' HKJ hk hk7
          go_wp2_with fail
          refine (setup15_any _).mono ?_
          rintro en w14 ⟨rfl, b14⟩
          have hA1 := hA.below b14
          have hZ1 := hZ.below b14
          have hZ21 := hZ2.below b14
          have hC21 := hC2.below b14
          clear hA hZ hZ2 hC2 b14
          go_wp2_with fail
          refine (awk_recover (by exact hA1) (now := 9) (by omega)).mono ?_
          rintro en w15 ⟨y, rfl, ⟨V', hcf', hA⟩, hKp⟩
          have hcf : V'.cf = ⟨2, [⟨0, 1, true⟩, ⟨2, 1, true⟩]⟩ := hcf'.trans at15_nine
          have hZ := hZ1.keepB hKp (by decide) (by decide) (by decide) (by decide)
          have hZ2 := hZ21.keepB hKp (by decide) (by decide) (by decide) (by decide)
          have hC2 := hC21.keepB hKp
          clear hA1 hZ1 hZ21 hC21 hKp hcf'
          obtain ⟨a2, cp2, he2, hs2⟩ := hC2.1
          obtain ⟨q, off, hq, hqlt, hcells⟩ := hs2.2.2 (by simp)
          injection he2 with e1 e2 e3
          subst e1 hq
          have hq3 : w15.cell? ⟨q, off + 3, none⟩ = some (.int .i64 2) := (hcells 1 ⟨2, 1, true⟩ rfl).1
          clear e2 e3 hs2 hcells
          go_upto_region 21 with (fail)
          have bd : Below w15.heap.size w15 w15.drew := below_drewN (Below.refl _ _) 1
          have hA1 := hA.below bd
          have hZ1 := hZ.below bd
          have hZ21 := hZ2.below bd
          have hC21 := hC2.below bd
          have hq31 : w15.drew.cell? ⟨q, off + 3, none⟩ = some (.int .i64 2) := hq3
          have hqlt1 : q < w15.drew.heap.size := hqlt
          clear hA hZ hZ2 hC2 hq3 hqlt bd
          have hA := hA1
          have hZ := hZ1
          have hZ2 := hZ21
          have hC2 := hC21
          have hq3 := hq31
          have hqlt := hqlt1
          clear hA1 hZ1 hZ21 hC21 hq31 hqlt1
          refine wp_region_noPanic ?_
          refine wp_region_held_drew (S := (fun w' => w'.cell? ⟨Z, 0, none⟩ = some (.int .i64 1) ∧ w'.cell? ⟨Z2, 0, none⟩ = some (.int .i64 2) ∧ w'.cell? ⟨Z2, 1, none⟩ = some (.slice (some ⟨q, off, none⟩) 2 cap2) ∧ w'.cell? ⟨q, off + 3, none⟩ = some (.int .i64 2))) (by kernel_rfl) (by exact ⟨hZ.cell rfl, hZ2.cell rfl, hZ2.cell rfl, hq3⟩) (fun hHeld => ?_)
          refine wpAnyH_take (i := 0) (oi := ?oq_1_0) (v := ?va_1_0) ?op_1_0 (by kernel_rfl) (by kernel_rfl) (by kernel_rfl) (fun _ _ _ h => h) ?yi_1_0 hHeld ?re_1_0
          case op_1_0 => (simp only [List.getElem?_toArray, List.getElem?_cons_zero]; rfl)
          case yi_1_0 =>
            refine Or.inl ⟨by rfl, ?_⟩
            intro w hSw
            try dsimp only at hSw
            go_simp
            all_goals with_reducible rfl
          try simp only [Act.put, List.setIfInBounds_toArray, List.set_cons_zero, List.set_cons_succ]
          refine wpAnyH_take (i := 1) (oi := ?oq_1_1) (v := ?va_1_1) ?op_1_1 (by kernel_rfl) (by kernel_rfl) (by kernel_rfl) (fun _ _ _ h => h) ?yi_1_1 hHeld ?re_1_1
          case op_1_1 => (simp only [List.getElem?_toArray, List.getElem?_cons_succ, List.getElem?_cons_zero]; rfl)
          case yi_1_1 =>
            refine Or.inl ⟨by rfl, ?_⟩
            intro w hSw
            try dsimp only at hSw
            go_simp
            all_goals with_reducible rfl
          try simp only [Act.put, List.setIfInBounds_toArray, List.set_cons_zero, List.set_cons_succ]
          refine wpAnyH_take (i := 2) (oi := ?oq_1_2) (v := ?va_1_2) ?op_1_2 (by kernel_rfl) (by kernel_rfl) (by kernel_rfl) (fun _ _ _ h => h) ?yi_1_2 hHeld ?re_1_2
          case op_1_2 => (simp only [List.getElem?_toArray, List.getElem?_cons_succ, List.getElem?_cons_zero]; rfl)
          case yi_1_2 =>
            refine Or.inl ⟨by rfl, ?_⟩
            intro w hSw
            try dsimp only at hSw
            go_simp
            all_goals with_reducible rfl
          try simp only [Act.put, List.setIfInBounds_toArray, List.set_cons_zero, List.set_cons_succ]
          refine wpAnyH_take (i := 3) (oi := ?oq_1_3) (v := ?va_1_3) ?op_1_3 (by kernel_rfl) (by kernel_rfl) (by kernel_rfl) (fun _ _ _ h => h) ?yi_1_3 hHeld ?re_1_3
          case op_1_3 => (simp only [List.getElem?_toArray, List.getElem?_cons_succ, List.getElem?_cons_zero]; rfl)
          case yi_1_3 =>
            refine Or.inl ⟨by rfl, ?_⟩
            intro w hSw
            try dsimp only at hSw
            go_simp
            all_goals with_reducible rfl
          try simp only [Act.put, List.setIfInBounds_toArray, List.set_cons_zero, List.set_cons_succ]
          refine wpAnyH_take (i := 4) (oi := ?oq_1_4) (v := ?va_1_4) ?op_1_4 (by kernel_rfl) (by kernel_rfl) (by kernel_rfl) (fun _ _ _ h => h) ?yi_1_4 hHeld ?re_1_4
          case op_1_4 => (simp only [List.getElem?_toArray, List.getElem?_cons_succ, List.getElem?_cons_zero]; rfl)
          case yi_1_4 =>
            refine Or.inl ⟨by rfl, ?_⟩
            intro w hSw
            try dsimp only at hSw
            go_simp
            all_goals with_reducible rfl
          try simp only [Act.put, List.setIfInBounds_toArray, List.set_cons_zero, List.set_cons_succ]
          refine wpAnyH_take (i := 5) (oi := ?oq_1_5) (v := ?va_1_5) ?op_1_5 (by kernel_rfl) (by kernel_rfl) (by kernel_rfl) (fun _ _ _ h => h) ?yi_1_5 hHeld ?re_1_5
          case op_1_5 => (simp only [List.getElem?_toArray, List.getElem?_cons_succ, List.getElem?_cons_zero]; rfl)
          case yi_1_5 =>
            refine Or.inl ⟨by rfl, ?_⟩
            intro w hSw
            try dsimp only at hSw
            go_simp
            all_goals with_reducible rfl
          try simp only [Act.put, List.setIfInBounds_toArray, List.set_cons_zero, List.set_cons_succ]
          refine wpAnyH_take (i := 6) (oi := ?oq_1_6) (v := ?va_1_6) ?op_1_6 (by kernel_rfl) (by kernel_rfl) (by kernel_rfl) (fun _ _ _ h => h) ?yi_1_6 hHeld ?re_1_6
          case op_1_6 => (simp only [List.getElem?_toArray, List.getElem?_cons_succ, List.getElem?_cons_zero]; rfl)
          case yi_1_6 =>
            refine Or.inl ⟨by rfl, ?_⟩
            intro w hSw
            try dsimp only at hSw
            go_simp
            all_goals with_reducible rfl
          try simp only [Act.put, List.setIfInBounds_toArray, List.set_cons_zero, List.set_cons_succ]
          refine wpAnyH_take (i := 7) (oi := ?oq_1_7) (v := ?va_1_7) ?op_1_7 (by kernel_rfl) (by kernel_rfl) (by kernel_rfl) (fun _ _ _ h => h) ?yi_1_7 hHeld ?re_1_7
          case op_1_7 => (simp only [List.getElem?_toArray, List.getElem?_cons_succ, List.getElem?_cons_zero]; rfl)
          case yi_1_7 =>
            refine Or.inl ⟨by rfl, ?_⟩
            intro w hSw
            try dsimp only at hSw
            go_simp
            all_goals with_reducible rfl
          try simp only [Act.put, List.setIfInBounds_toArray, List.set_cons_zero, List.set_cons_succ]
          refine wpAnyH_take (i := 8) (oi := ?oq_1_8) (v := ?va_1_8) ?op_1_8 (by kernel_rfl) (by kernel_rfl) (by kernel_rfl) (fun _ _ _ h => h) ?yi_1_8 hHeld ?re_1_8
          case op_1_8 => (simp only [List.getElem?_toArray, List.getElem?_cons_succ, List.getElem?_cons_zero]; rfl)
          case yi_1_8 =>
            refine Or.inl ⟨by rfl, ?_⟩
            intro w hSw
            try dsimp only at hSw
            go_simp
            all_goals with_reducible rfl
          try simp only [Act.put, List.setIfInBounds_toArray, List.set_cons_zero, List.set_cons_succ]
          refine wpAnyH_take (i := 9) (oi := ?oq_1_9) (v := ?va_1_9) ?op_1_9 (by kernel_rfl) (by kernel_rfl) (by kernel_rfl) (fun _ _ _ h => h) ?yi_1_9 hHeld ?re_1_9
          case op_1_9 => (simp only [List.getElem?_toArray, List.getElem?_cons_succ, List.getElem?_cons_zero]; rfl)
          case yi_1_9 =>
            refine Or.inl ⟨by rfl, ?_⟩
            intro w hSw
            try dsimp only at hSw
            go_simp
            all_goals with_reducible rfl
          try simp only [Act.put, List.setIfInBounds_toArray, List.set_cons_zero, List.set_cons_succ]
          refine wpAnyH_take (i := 10) (oi := ?oq_1_10) (v := ?va_1_10) ?op_1_10 (by kernel_rfl) (by kernel_rfl) (by kernel_rfl) (fun _ _ _ h => h) ?yi_1_10 hHeld ?re_1_10
          case op_1_10 => (simp only [List.getElem?_toArray, List.getElem?_cons_succ, List.getElem?_cons_zero]; rfl)
          case yi_1_10 =>
            refine Or.inl ⟨by rfl, ?_⟩
            intro w hSw
            try dsimp only at hSw
            go_simp
            all_goals with_reducible rfl
          try simp only [Act.put, List.setIfInBounds_toArray, List.set_cons_zero, List.set_cons_succ]
          refine wpAnyH_take (i := 11) (oi := ?oq_1_11) (v := ?va_1_11) ?op_1_11 (by kernel_rfl) (by kernel_rfl) (by kernel_rfl) (fun _ _ _ h => h) ?yi_1_11 hHeld ?re_1_11
          case op_1_11 => (simp only [List.getElem?_toArray, List.getElem?_cons_succ, List.getElem?_cons_zero]; rfl)
          case yi_1_11 =>
            refine Or.inl ⟨by rfl, ?_⟩
            intro w hSw
            try dsimp only at hSw
            go_simp
            all_goals with_reducible rfl
          try simp only [Act.put, List.setIfInBounds_toArray, List.set_cons_zero, List.set_cons_succ]
          refine wpAnyH_take (i := 12) (oi := ?oq_1_12) (v := ?va_1_12) ?op_1_12 (by kernel_rfl) (by kernel_rfl) (by kernel_rfl) (fun _ _ _ h => h) ?yi_1_12 hHeld ?re_1_12
          case op_1_12 => (simp only [List.getElem?_toArray, List.getElem?_cons_succ, List.getElem?_cons_zero]; rfl)
          case yi_1_12 =>
            refine Or.inl ⟨by rfl, ?_⟩
            intro w hSw
            try dsimp only at hSw
            go_simp
            all_goals with_reducible rfl
          try simp only [Act.put, List.setIfInBounds_toArray, List.set_cons_zero, List.set_cons_succ]
          refine wpAnyH_take (i := 13) (oi := ?oq_1_13) (v := ?va_1_13) ?op_1_13 (by kernel_rfl) (by kernel_rfl) (by kernel_rfl) (fun _ _ _ h => h) ?yi_1_13 hHeld ?re_1_13
          case op_1_13 => (simp only [List.getElem?_toArray, List.getElem?_cons_succ, List.getElem?_cons_zero]; rfl)
          case yi_1_13 =>
            refine Or.inl ⟨by rfl, ?_⟩
            intro w hSw
            try dsimp only at hSw
            go_simp
            all_goals with_reducible rfl
          try simp only [Act.put, List.setIfInBounds_toArray, List.set_cons_zero, List.set_cons_succ]
          refine wpAnyH_take (i := 14) (oi := ?oq_1_14) (v := ?va_1_14) ?op_1_14 (by kernel_rfl) (by kernel_rfl) (by kernel_rfl) (fun _ _ _ h => h) ?yi_1_14 hHeld ?re_1_14
          case op_1_14 => (simp only [List.getElem?_toArray, List.getElem?_cons_succ, List.getElem?_cons_zero]; rfl)
          case yi_1_14 =>
            refine Or.inl ⟨by rfl, ?_⟩
            intro w hSw
            try dsimp only at hSw
            go_simp
            all_goals with_reducible rfl
          try simp only [Act.put, List.setIfInBounds_toArray, List.set_cons_zero, List.set_cons_succ]
          refine wpAnyH_take (i := 15) (oi := ?oq_1_15) (v := ?va_1_15) ?op_1_15 (by kernel_rfl) (by kernel_rfl) (by kernel_rfl) (fun _ _ _ h => h) ?yi_1_15 hHeld ?re_1_15
          case op_1_15 => (simp only [List.getElem?_toArray, List.getElem?_cons_succ, List.getElem?_cons_zero]; rfl)
          case yi_1_15 =>
            refine Or.inl ⟨by rfl, ?_⟩
            intro w hSw
            try dsimp only at hSw
            go_simp
            all_goals with_reducible rfl
          try simp only [Act.put, List.setIfInBounds_toArray, List.set_cons_zero, List.set_cons_succ]
          refine wpAnyH_take (i := 16) (oi := ?oq_1_16) (v := ?va_1_16) ?op_1_16 (by kernel_rfl) (by kernel_rfl) (by kernel_rfl) (fun _ _ _ h => h) ?yi_1_16 hHeld ?re_1_16
          case op_1_16 => (simp only [List.getElem?_toArray, List.getElem?_cons_succ, List.getElem?_cons_zero]; rfl)
          case yi_1_16 =>
            refine Or.inl ⟨by rfl, ?_⟩
            intro w hSw
            try dsimp only at hSw
            go_simp
            all_goals with_reducible rfl
          try simp only [Act.put, List.setIfInBounds_toArray, List.set_cons_zero, List.set_cons_succ]
          refine wpAnyH_take (i := 17) (oi := ?oq_1_17) (v := ?va_1_17) ?op_1_17 (by kernel_rfl) (by kernel_rfl) (by kernel_rfl) (fun _ _ _ h => h) ?yi_1_17 hHeld ?re_1_17
          case op_1_17 => (simp only [List.getElem?_toArray, List.getElem?_cons_succ, List.getElem?_cons_zero]; rfl)
          case yi_1_17 =>
            refine Or.inl ⟨by rfl, ?_⟩
            intro w hSw
            try dsimp only at hSw
            go_simp
            all_goals with_reducible rfl
          try simp only [Act.put, List.setIfInBounds_toArray, List.set_cons_zero, List.set_cons_succ]
          refine wpAnyH_take (i := 18) (oi := ?oq_1_18) (v := ?va_1_18) ?op_1_18 (by kernel_rfl) (by kernel_rfl) (by kernel_rfl) (fun _ _ _ h => h) ?yi_1_18 hHeld ?re_1_18
          case op_1_18 => (simp only [List.getElem?_toArray, List.getElem?_cons_succ, List.getElem?_cons_zero]; rfl)
          case yi_1_18 =>
            refine Or.inl ⟨by rfl, ?_⟩
            intro w hSw
            try dsimp only at hSw
            go_simp
            all_goals with_reducible rfl
          try simp only [Act.put, List.setIfInBounds_toArray, List.set_cons_zero, List.set_cons_succ]
          refine wpAnyH_take (i := 19) (oi := ?oq_1_19) (v := ?va_1_19) ?op_1_19 (by kernel_rfl) (by kernel_rfl) (by kernel_rfl) (fun _ _ _ h => h) ?yi_1_19 hHeld ?re_1_19
          case op_1_19 => (simp only [List.getElem?_toArray, List.getElem?_cons_succ, List.getElem?_cons_zero]; rfl)
          case yi_1_19 =>
            refine Or.inl ⟨by rfl, ?_⟩
            intro w hSw
            try dsimp only at hSw
            go_simp
            all_goals with_reducible rfl
          try simp only [Act.put, List.setIfInBounds_toArray, List.set_cons_zero, List.set_cons_succ]
          refine wpAnyH_take (i := 20) (oi := ?oq_1_20) (v := ?va_1_20) ?op_1_20 (by kernel_rfl) (by kernel_rfl) (by kernel_rfl) (fun _ _ _ h => h) ?yi_1_20 hHeld ?re_1_20
          case op_1_20 => (simp only [List.getElem?_toArray, List.getElem?_cons_succ, List.getElem?_cons_zero]; rfl)
          case yi_1_20 =>
            refine Or.inl ⟨by rfl, ?_⟩
            intro w hSw
            try dsimp only at hSw
            go_simp
            all_goals with_reducible rfl
          try simp only [Act.put, List.setIfInBounds_toArray, List.set_cons_zero, List.set_cons_succ]
          refine wpAnyH_take (i := 21) (oi := ?oq_1_21) (v := ?va_1_21) ?op_1_21 (by kernel_rfl) (by kernel_rfl) (by kernel_rfl) (fun _ _ _ h => h) ?yi_1_21 hHeld ?re_1_21
          case op_1_21 => (simp only [List.getElem?_toArray, List.getElem?_cons_succ, List.getElem?_cons_zero]; rfl)
          case yi_1_21 =>
            refine Or.inl ⟨by rfl, ?_⟩
            intro w hSw
            try dsimp only at hSw
            go_simp
            all_goals with_reducible rfl
          try simp only [Act.put, List.setIfInBounds_toArray, List.set_cons_zero, List.set_cons_succ]
          refine wpAnyH_take (i := 22) (oi := ?oq_1_22) (v := ?va_1_22) ?op_1_22 (by kernel_rfl) (by kernel_rfl) (by kernel_rfl) (fun _ _ _ h => h) ?yi_1_22 hHeld ?re_1_22
          case op_1_22 => (simp only [List.getElem?_toArray, List.getElem?_cons_succ, List.getElem?_cons_zero]; rfl)
          case yi_1_22 =>
            refine Or.inl ⟨by rfl, ?_⟩
            intro w hSw
            try dsimp only at hSw
            go_simp
            all_goals with_reducible rfl
          try simp only [Act.put, List.setIfInBounds_toArray, List.set_cons_zero, List.set_cons_succ]
          refine wpAnyH_take (i := 23) (oi := ?oq_1_23) (v := ?va_1_23) ?op_1_23 (by kernel_rfl) (by kernel_rfl) (by kernel_rfl) (fun _ _ _ h => h) ?yi_1_23 hHeld ?re_1_23
          case op_1_23 => (simp only [List.getElem?_toArray, List.getElem?_cons_succ, List.getElem?_cons_zero]; rfl)
          case yi_1_23 =>
            refine Or.inl ⟨by rfl, ?_⟩
            intro w hSw
            try dsimp only at hSw
            go_simp
            all_goals with_reducible rfl
          try simp only [Act.put, List.setIfInBounds_toArray, List.set_cons_zero, List.set_cons_succ]
          refine wpAnyH_take (i := 24) (oi := ?oq_1_24) (v := ?va_1_24) ?op_1_24 (by kernel_rfl) (by kernel_rfl) (by kernel_rfl) (fun _ _ _ h => h) ?yi_1_24 hHeld ?re_1_24
          case op_1_24 => (simp only [List.getElem?_toArray, List.getElem?_cons_succ, List.getElem?_cons_zero]; rfl)
          case yi_1_24 =>
            refine Or.inl ⟨by rfl, ?_⟩
            intro w hSw
            try dsimp only at hSw
            go_simp
            all_goals with_reducible rfl
          try simp only [Act.put, List.setIfInBounds_toArray, List.set_cons_zero, List.set_cons_succ]
          refine wpAnyH_take (i := 25) (oi := ?oq_1_25) (v := ?va_1_25) ?op_1_25 (by kernel_rfl) (by kernel_rfl) (by kernel_rfl) (fun _ _ _ h => h) ?yi_1_25 hHeld ?re_1_25
          case op_1_25 => (simp only [List.getElem?_toArray, List.getElem?_cons_succ, List.getElem?_cons_zero]; rfl)
          case yi_1_25 =>
            refine Or.inl ⟨by rfl, ?_⟩
            intro w hSw
            try dsimp only at hSw
            go_simp
            all_goals with_reducible rfl
          try simp only [Act.put, List.setIfInBounds_toArray, List.set_cons_zero, List.set_cons_succ]
          refine wpAnyH_take (i := 26) (oi := ?oq_1_26) (v := ?va_1_26) ?op_1_26 (by kernel_rfl) (by kernel_rfl) (by kernel_rfl) (fun _ _ _ h => h) ?yi_1_26 hHeld ?re_1_26
          case op_1_26 => (simp only [List.getElem?_toArray, List.getElem?_cons_succ, List.getElem?_cons_zero]; rfl)
          case yi_1_26 =>
            refine Or.inl ⟨by rfl, ?_⟩
            intro w hSw
            try dsimp only at hSw
            go_simp
            all_goals with_reducible rfl
          try simp only [Act.put, List.setIfInBounds_toArray, List.set_cons_zero, List.set_cons_succ]
          refine wpAnyH_take (i := 27) (oi := ?oq_1_27) (v := ?va_1_27) ?op_1_27 (by kernel_rfl) (by kernel_rfl) (by kernel_rfl) (fun _ _ _ h => h) ?yi_1_27 hHeld ?re_1_27
          case op_1_27 => (simp only [List.getElem?_toArray, List.getElem?_cons_succ, List.getElem?_cons_zero]; rfl)
          case yi_1_27 =>
            refine Or.inl ⟨by rfl, ?_⟩
            intro w hSw
            try dsimp only at hSw
            go_simp
            all_goals with_reducible rfl
          try simp only [Act.put, List.setIfInBounds_toArray, List.set_cons_zero, List.set_cons_succ]
          refine wpAnyH_take (i := 28) (oi := ?oq_1_28) (v := ?va_1_28) ?op_1_28 (by kernel_rfl) (by kernel_rfl) (by kernel_rfl) (fun _ _ _ h => h) ?yi_1_28 hHeld ?re_1_28
          case op_1_28 => (simp only [List.getElem?_toArray, List.getElem?_cons_succ, List.getElem?_cons_zero]; rfl)
          case yi_1_28 =>
            refine Or.inl ⟨by rfl, ?_⟩
            intro w hSw
            try dsimp only at hSw
            go_simp
            all_goals with_reducible rfl
          try simp only [Act.put, List.setIfInBounds_toArray, List.set_cons_zero, List.set_cons_succ]
          refine wpAnyH_take (i := 29) (oi := ?oq_1_29) (v := ?va_1_29) ?op_1_29 (by kernel_rfl) (by kernel_rfl) (by kernel_rfl) (fun _ _ _ h => h) ?yi_1_29 hHeld ?re_1_29
          case op_1_29 => (simp only [List.getElem?_toArray, List.getElem?_cons_succ, List.getElem?_cons_zero]; rfl)
          case yi_1_29 =>
            refine Or.inl ⟨by rfl, ?_⟩
            intro w hSw
            try dsimp only at hSw
            go_simp
            all_goals with_reducible rfl
          try simp only [Act.put, List.setIfInBounds_toArray, List.set_cons_zero, List.set_cons_succ]
          refine wpAnyH_take (i := 30) (oi := ?oq_1_30) (v := ?va_1_30) ?op_1_30 (by kernel_rfl) (by kernel_rfl) (by kernel_rfl) (fun _ _ _ h => h) ?yi_1_30 hHeld ?re_1_30
          case op_1_30 => (simp only [List.getElem?_toArray, List.getElem?_cons_succ, List.getElem?_cons_zero]; rfl)
          case yi_1_30 =>
            refine Or.inl ⟨by rfl, ?_⟩
            intro w hSw
            try dsimp only at hSw
            go_simp
            all_goals with_reducible rfl
          try simp only [Act.put, List.setIfInBounds_toArray, List.set_cons_zero, List.set_cons_succ]
          refine wpAnyH_take (i := 31) (oi := ?oq_1_31) (v := ?va_1_31) ?op_1_31 (by kernel_rfl) (by kernel_rfl) (by kernel_rfl) (fun _ _ _ h => h) ?yi_1_31 hHeld ?re_1_31
          case op_1_31 => (simp only [List.getElem?_toArray, List.getElem?_cons_succ, List.getElem?_cons_zero]; rfl)
          case yi_1_31 =>
            refine Or.inl ⟨by rfl, ?_⟩
            intro w hSw
            try dsimp only at hSw
            go_simp
            all_goals with_reducible rfl
          try simp only [Act.put, List.setIfInBounds_toArray, List.set_cons_zero, List.set_cons_succ]
          refine wpAnyH_take (i := 32) (oi := ?oq_1_32) (v := ?va_1_32) ?op_1_32 (by kernel_rfl) (by kernel_rfl) (by kernel_rfl) (fun _ _ _ h => h) ?yi_1_32 hHeld ?re_1_32
          case op_1_32 => (simp only [List.getElem?_toArray, List.getElem?_cons_succ, List.getElem?_cons_zero]; rfl)
          case yi_1_32 =>
            refine Or.inl ⟨by rfl, ?_⟩
            intro w hSw
            try dsimp only at hSw
            go_simp
            all_goals with_reducible rfl
          try simp only [Act.put, List.setIfInBounds_toArray, List.set_cons_zero, List.set_cons_succ]
          refine wpAnyH_take (i := 34) (oi := ?oq_1_34) (v := ?va_1_34) ?op_1_34 (by kernel_rfl) (by kernel_rfl) (by kernel_rfl) (fun _ _ _ h => h) ?yi_1_34 hHeld ?re_1_34
          case op_1_34 => (simp only [List.getElem?_toArray, List.getElem?_cons_succ, List.getElem?_cons_zero]; rfl)
          case yi_1_34 =>
            refine Or.inl ⟨by rfl, ?_⟩
            intro w hSw
            try dsimp only at hSw
            go_simp
            all_goals with_reducible rfl
          try simp only [Act.put, List.setIfInBounds_toArray, List.set_cons_zero, List.set_cons_succ]
          refine wpAnyH_ready (rs := [33]) (by kernel_rfl) (by simp) (AllReadyH.cons (o := ?oq_1_33) ?op_1_33 (fun K hK => ?re_1_33) AllReadyH.nil)
          case op_1_33 => (simp only [List.getElem?_toArray, List.getElem?_cons_succ, List.getElem?_cons_zero]; rfl)
          go_simp
          go_at_call 13
          refine (awk_conf (by exact hA) hcf rfl).mono ?_
          rintro en w20 ⟨A3, cap3, rfl, hC3, bz⟩
          have hAq := hA.below bz
          clear hA
          have hA := hAq
          clear hAq
          have hZq := hZ.below bz
          clear hZ
          have hZ := hZq
          clear hZq
          have hZ2q := hZ2.below bz
          clear hZ2
          have hZ2 := hZ2q
          clear hZ2q
          have hC2q := hC2.below bz
          clear hC2
          have hC2 := hC2q
          clear hC2q
          have hq3q := (bz.cell (p := ⟨q, off + 3, none⟩) hqlt).trans hq3
          have hqltq := Nat.lt_of_lt_of_le hqlt bz.size
          clear hq3 hqlt
          have hq3 := hq3q
          have hqlt := hqltq
          clear hq3q hqltq bz
          refine hK.out _ _ (by exact ⟨hZ.cell rfl, hZ2.cell rfl, hZ2.cell rfl, hq3⟩) (fun hHeld => ?_)
          clear hK K
          try simp only [Act.put, List.setIfInBounds_toArray, List.set_cons_zero, List.set_cons_succ]
          refine wpAnyH_ready (rs := [35]) (by kernel_rfl) (by simp) (AllReadyH.cons (o := ?oq_1_35) ?op_1_35 (fun K hK => ?re_1_35) AllReadyH.nil)
          case op_1_35 => (simp only [List.getElem?_toArray, List.getElem?_cons_succ, List.getElem?_cons_zero]; rfl)
          go_simp
          go_at_call 17
          refine (qcsame_at (by exact hC3.1) (by exact hC2.1) (b := true) (sameC_iff.2 rfl)).mono ?_
          rintro en w21 ⟨rfl, bz⟩
          have hAq := hA.below bz
          clear hA
          have hA := hAq
          clear hAq
          have hZq := hZ.below bz
          clear hZ
          have hZ := hZq
          clear hZq
          have hZ2q := hZ2.below bz
          clear hZ2
          have hZ2 := hZ2q
          clear hZ2q
          have hq3q := (bz.cell (p := ⟨q, off + 3, none⟩) hqlt).trans hq3
          clear hq3 hqlt
          have hq3 := hq3q
          clear hq3q bz
          refine hK.out _ _ (by exact ⟨hZ.cell rfl, hZ2.cell rfl, hZ2.cell rfl, hq3⟩) (fun hHeld => ?_)
          clear hK K
          try simp only [Act.put, List.setIfInBounds_toArray, List.set_cons_zero, List.set_cons_succ]
          refine wpAnyH_take (i := 36) (oi := ?oq_1_36) (v := ?va_1_36) ?op_1_36 (by kernel_rfl) (by kernel_rfl) (by kernel_rfl) (fun _ _ _ h => h) ?yi_1_36 hHeld ?re_1_36
          case op_1_36 => (simp only [List.getElem?_toArray, List.getElem?_cons_succ, List.getElem?_cons_zero]; rfl)
          case yi_1_36 =>
            refine Or.inl ⟨by rfl, ?_⟩
            intro w hSw
            try dsimp only at hSw
            go_simp
            all_goals with_reducible rfl
          try simp only [Act.put, List.setIfInBounds_toArray, List.set_cons_zero, List.set_cons_succ]
          refine wpAnyH_take (i := 37) (oi := ?oq_1_37) (v := ?va_1_37) ?op_1_37 (by kernel_rfl) (by kernel_rfl) (by kernel_rfl) (fun _ _ _ h => h) ?yi_1_37 hHeld ?re_1_37
          case op_1_37 => (simp only [List.getElem?_toArray, List.getElem?_cons_succ, List.getElem?_cons_zero]; rfl)
          case yi_1_37 =>
            refine Or.inl ⟨by rfl, ?_⟩
            intro w hSw
            try dsimp only at hSw
            go_simp
            all_goals with_reducible rfl
          try simp only [Act.put, List.setIfInBounds_toArray, List.set_cons_zero]
          refine wpAnyH_done (by kernel_rfl) ?_ _
          refine NoPanic.normal ?_
          clear hHeld
          have HL := Lib.hid hA.low
          clear hA hZ hZ2 hq3
          go_wp2_with fail
          go_ret
          exact ⟨rfl, HL.out⟩
end Go.Proofs.YtomfmejodmfioaaGreat
