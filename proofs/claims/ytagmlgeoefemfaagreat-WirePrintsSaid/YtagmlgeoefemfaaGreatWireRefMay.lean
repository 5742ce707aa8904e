/- The document's May of messages. -/
import Derived.Test.YtagmlgeoefemfaaGreatWireRefOnly
import Derived.Test.YtagmlgeoefemfaaGreatWireRefSame
import Derived.Test.YtagmlgeoefemfaaGreatOpRefMay
import Derived.Test.YtagmlgeoefemfaaGreatCfgRight
namespace Go.Proofs.YtagmlgeoefemfaaGreat
open Go.RowKit Go.ChangeShapes Go.WideShapes Go.Joins Go.Deep Fld
set_option linter.unusedVariables false

theorem msg_cellsO {M : MsgV} {ok a1 a2 a3 a4 a5 a6 a7 a8 : Int} {oc : List UInt8} (h : M.op = ⟨ok, [a1, a2, a3, a4, a5, a6, a7, a8], oc⟩) (v1 v2 : Value) :
    (msgCells M v1 v2)[11]? = some (.int .i64 ok) ∧ (msgCells M v1 v2)[12]? = some (.int .i64 a1) ∧ (msgCells M v1 v2)[13]? = some (.int .i64 a2) ∧ (msgCells M v1 v2)[14]? = some (.int .i64 a3) ∧ (msgCells M v1 v2)[15]? = some (.int .i64 a4) ∧
    (msgCells M v1 v2)[16]? = some (.int .i64 a5) ∧ (msgCells M v1 v2)[17]? = some (.int .i64 a6) ∧ (msgCells M v1 v2)[18]? = some (.int .i64 a7) ∧ (msgCells M v1 v2)[19]? = some (.int .i64 a8) ∧ (msgCells M v1 v2)[20]? = some (.string ⟨oc.toArray⟩) ∧
    (msgCells M v1 v2)[24]? = some (.int .i64 M.cf.epoch) ∧ (msgCells M v1 v2)[25]? = some v1 := by
  obtain ⟨k, dst, fn, fl, ep, seq, req, cl, id, un, flag, op, re, rg, rd, cf, fires, life⟩ := M
  simp only at h
  subst h
  exact ⟨rfl, rfl, rfl, rfl, rfl, rfl, rfl, rfl, rfl, rfl, rfl, rfl⟩

set_option maxRecDepth 100000 in
set_option maxHeartbeats 4000000 in

theorem qwmay_any {w : World} {M : MsgV} {v : Value} (hv : M.At w v) (hok : MOk M) {b : Bool} (hbv : mayW M = b) :
    Calls Tryz.prog 8 #[v] w fun en w' => en = .returned (.bool b) ∧ Below w.heap.size w w' := by
  have hop := hok.op.1
  have hoo := hok.op
  have hA0 := hv
  obtain ⟨v1, v2, rfl, ⟨a1, cap1, rfl, hs⟩, ⟨a2, cap2, rfl, hfl, hfs⟩⟩ := hv
  have hlen : (msgCells M (.slice a1 M.cf.chain.length cap1) (.slice a2 M.fires.length cap2)).length = 28 := msgCells_len hop _ _
  have h0 := msg_c0 M (.slice a1 M.cf.chain.length cap1) (.slice a2 M.fires.length cap2)
  have h26 := msg_c26 hop (.slice a1 M.cf.chain.length cap1) (.slice a2 M.fires.length cap2)
  obtain ⟨ok, ov, oc, hO⟩ : ∃ ok ov oc, M.op = ⟨ok, ov, oc⟩ := ⟨_, _, _, rfl⟩
  have hop8 := hop
  rw [hO] at hop8 hoo
  obtain ⟨x1, x2, x3, x4, x5, x6, x7, x8, rfl⟩ := list8 hop8
  have HOP := Lib.hid (msg_cellsO hO (.slice a1 M.cf.chain.length cap1) (.slice a2 M.fires.length cap2))
  have HC := Lib.hid (show ChainAt w (.slice a1 M.cf.chain.length cap1) M.cf.chain from ⟨a1, cap1, rfl, hs⟩)
  generalize msgCells M (.slice a1 M.cf.chain.length cap1) (.slice a2 M.fires.length cap2) = cs at *
  clear hs hfs hop8
  unfold maxLen at hfl
  have hM := BlkAt.new w 34 cs
  have hb := (Below.refl w.heap.size w).alloc (Nat.le_refl _) (.cells cs.toArray 34)
  have hA := hA0.below hb
  have HB := Lib.hid hbv
  clear hbv hA0
  have hop3 : (onlyM M).op.v.length = 8 := by
    rw [onlyM_put]
    have : ∀ R A, A.op.v.length = 8 → (putF R M A).op.v.length = 8 := by
      intro R
      induction R with
      | nil => intro A h; exact h
      | cons F R ih => intro A h; exact ih _ (setF_op hop h)
    exact this _ _ rfl
  obtain ⟨q, hq⟩ : ∃ q, q = decide (M = onlyM M) := ⟨_, rfl⟩
  have HQ := Lib.hid hq
  clear hq
  go_enter Tryz.func8, Tryz.ntmps8
  go_upto_region 1 with (fail)
  change Code.wp _ _ _ _ (w.alloc (.cells cs.toArray 34))
  change BlkAt (w.alloc (.cells cs.toArray 34)) _ _ _ at hM
  generalize w.alloc (.cells cs.toArray 34) = W at *
  obtain ⟨m, hm⟩ : ∃ m, m = w.heap.size := ⟨_, rfl⟩
  rw [← hm] at hM ⊢
  clear hm
  have bd : Below W.heap.size W W.drew := below_drewN (Below.refl _ _) 1
  have hMd := hM.below bd
  have hAd := hA.below bd
  have hbd : Below w.heap.size w W.drew := below_drewN hb 1
  clear hM hA hb bd
  have hM := hMd
  have hA := hAd
  have hb := hbd
  clear hMd hAd hbd
  by_cases k1 : M.kind < 1
  · have HE := Lib.hid (show mayW M = false by rw [Bool.eq_false_iff]; intro h; have := (mayW_iff.1 h).1; omega)
    refine wp_region_noPanic ?_
    refine wp_region_held_drew (S := (fun w' => w'.cell? ⟨m, 0, none⟩ = some (.int .i64 M.kind) ∧ w'.cell? ⟨m, 26, none⟩ = some (.slice a2 M.fires.length cap2) ∧ BlkAt w' m 34 cs)) (by kernel_rfl) (by exact ⟨hM.cell h0, hM.cell h26, hM⟩) (fun hHeld => ?_)
    refine wpAnyH_take (i := 0) (oi := ?oq_1_0) (v := ?va_1_0) ?op_1_0 (by kernel_rfl) (by kernel_rfl) (by kernel_rfl) (fun _ _ _ h => h) ?yi_1_0 hHeld ?re_1_0
    case op_1_0 => (simp only [List.getElem?_toArray, List.getElem?_cons_zero]; rfl)
    case yi_1_0 =>
      refine Or.inl ⟨by rfl, ?_⟩
      intro w hSw
      try dsimp only at hSw
      go_simp
      all_goals with_reducible rfl
    try simp only [Act.put, List.setIfInBounds_toArray, List.set_cons_zero, List.set_cons_succ]
    refine wpAnyH_take (i := 1) (oi := ?oq_1_1) (v := ?va_1_1) ?op_1_1 (by kernel_rfl) (by kernel_rfl) (by kernel_rfl) (fun _ _ _ h => h) ?yi_1_1 hHeld ?re_1_1
    case op_1_1 => (simp only [List.getElem?_toArray, List.getElem?_cons_succ, List.getElem?_cons_zero]; rfl)
    case yi_1_1 =>
      refine Or.inl ⟨by rfl, ?_⟩
      intro w hSw
      try dsimp only at hSw
      go_simp
      all_goals with_reducible rfl
    try simp only [Act.put, List.setIfInBounds_toArray, List.set_cons_zero, List.set_cons_succ]
    refine wpAnyH_take (i := 2) (oi := ?oq_1_2) (v := ?va_1_2) ?op_1_2 (by kernel_rfl) (by kernel_rfl) (by kernel_rfl) (fun _ _ _ h => h) ?yi_1_2 hHeld ?re_1_2
    case op_1_2 => (simp only [List.getElem?_toArray, List.getElem?_cons_succ, List.getElem?_cons_zero]; rfl)
    case yi_1_2 =>
      refine Or.inl ⟨by rfl, ?_⟩
      intro w hSw
      try dsimp only at hSw
      go_simp
      all_goals with_reducible rfl
    try simp only [Act.put, List.setIfInBounds_toArray, List.set_cons_zero, List.set_cons_succ]
    refine wpAnyH_take (i := 3) (oi := ?oq_1_3) (v := ?va_1_3) ?op_1_3 (by kernel_rfl) (by kernel_rfl) (by kernel_rfl) (fun _ _ _ h => h) ?yi_1_3 hHeld ?re_1_3
    case op_1_3 => (simp only [List.getElem?_toArray, List.getElem?_cons_succ, List.getElem?_cons_zero]; rfl)
    case yi_1_3 =>
      refine Or.inl ⟨by rfl, ?_⟩
      intro w hSw
      try dsimp only at hSw
      go_simp
      all_goals with_reducible rfl
    try simp only [Act.put, List.setIfInBounds_toArray, List.set_cons_zero, List.set_cons_succ]
    refine wpAnyH_take (i := 4) (oi := ?oq_1_4) (v := undef) ?op_1_4 (by kernel_rfl) (by kernel_rfl) (by kernel_rfl) (fun _ _ _ h => h) ?yi_1_4 hHeld ?re_1_4
    case op_1_4 => (simp only [List.getElem?_toArray, List.getElem?_cons_succ, List.getElem?_cons_zero]; rfl)
    case yi_1_4 => exact Or.inr ⟨by rfl, rfl⟩
    try simp only [Act.put, List.setIfInBounds_toArray, List.set_cons_zero, List.set_cons_succ]
    refine wpAnyH_take (i := 5) (oi := ?oq_1_5) (v := undef) ?op_1_5 (by kernel_rfl) (by kernel_rfl) (by kernel_rfl) (fun _ _ _ h => h) ?yi_1_5 hHeld ?re_1_5
    case op_1_5 => (simp only [List.getElem?_toArray, List.getElem?_cons_succ, List.getElem?_cons_zero]; rfl)
    case yi_1_5 => exact Or.inr ⟨by rfl, rfl⟩
    try simp only [Act.put, List.setIfInBounds_toArray, List.set_cons_zero, List.set_cons_succ]
    refine wpAnyH_take (i := 6) (oi := ?oq_1_6) (v := undef) ?op_1_6 (by kernel_rfl) (by kernel_rfl) (by kernel_rfl) (fun _ _ _ h => h) ?yi_1_6 hHeld ?re_1_6
    case op_1_6 => (simp only [List.getElem?_toArray, List.getElem?_cons_succ, List.getElem?_cons_zero]; rfl)
    case yi_1_6 => exact Or.inr ⟨by rfl, rfl⟩
    try simp only [Act.put, List.setIfInBounds_toArray, List.set_cons_zero, List.set_cons_succ]
    refine wpAnyH_take (i := 7) (oi := ?oq_1_7) (v := ?va_1_7) ?op_1_7 (by kernel_rfl) (by kernel_rfl) (by kernel_rfl) (fun _ _ _ h => h) ?yi_1_7 hHeld ?re_1_7
    case op_1_7 => (simp only [List.getElem?_toArray, List.getElem?_cons_succ, List.getElem?_cons_zero]; rfl)
    case yi_1_7 =>
      refine Or.inl ⟨by rfl, ?_⟩
      intro w hSw
      try dsimp only at hSw
      go_simp
      all_goals with_reducible rfl
    try simp only [Act.put, List.setIfInBounds_toArray, List.set_cons_zero, List.set_cons_succ]
    refine wpAnyH_take (i := 8) (oi := ?oq_1_8) (v := ?va_1_8) ?op_1_8 (by kernel_rfl) (by kernel_rfl) (by kernel_rfl) (fun _ _ _ h => h) ?yi_1_8 hHeld ?re_1_8
    case op_1_8 => (simp only [List.getElem?_toArray, List.getElem?_cons_succ, List.getElem?_cons_zero]; rfl)
    case yi_1_8 =>
      refine Or.inl ⟨by rfl, ?_⟩
      intro w hSw
      try dsimp only at hSw
      go_simp
      all_goals with_reducible rfl
    try simp only [Act.put, List.setIfInBounds_toArray, List.set_cons_zero, List.set_cons_succ]
    refine wpAnyH_take (i := 9) (oi := ?oq_1_9) (v := undef) ?op_1_9 (by kernel_rfl) (by kernel_rfl) (by kernel_rfl) (fun _ _ _ h => h) ?yi_1_9 hHeld ?re_1_9
    case op_1_9 => (simp only [List.getElem?_toArray, List.getElem?_cons_succ, List.getElem?_cons_zero]; rfl)
    case yi_1_9 => exact Or.inr ⟨by rfl, rfl⟩
    try simp only [Act.put, List.setIfInBounds_toArray, List.set_cons_zero, List.set_cons_succ]
    refine wpAnyH_take (i := 10) (oi := ?oq_1_10) (v := undef) ?op_1_10 (by kernel_rfl) (by kernel_rfl) (by kernel_rfl) (fun _ _ _ h => h) ?yi_1_10 hHeld ?re_1_10
    case op_1_10 => (simp only [List.getElem?_toArray, List.getElem?_cons_succ, List.getElem?_cons_zero]; rfl)
    case yi_1_10 => exact Or.inr ⟨by rfl, rfl⟩
    try simp only [Act.put, List.setIfInBounds_toArray, List.set_cons_zero, List.set_cons_succ]
    refine wpAnyH_take (i := 11) (oi := ?oq_1_11) (v := undef) ?op_1_11 (by kernel_rfl) (by kernel_rfl) (by kernel_rfl) (fun _ _ _ h => h) ?yi_1_11 hHeld ?re_1_11
    case op_1_11 => (simp only [List.getElem?_toArray, List.getElem?_cons_succ, List.getElem?_cons_zero]; rfl)
    case yi_1_11 => exact Or.inr ⟨by rfl, rfl⟩
    try simp only [Act.put, List.setIfInBounds_toArray, List.set_cons_zero, List.set_cons_succ]
    refine wpAnyH_take (i := 12) (oi := ?oq_1_12) (v := undef) ?op_1_12 (by kernel_rfl) (by kernel_rfl) (by kernel_rfl) (fun _ _ _ h => h) ?yi_1_12 hHeld ?re_1_12
    case op_1_12 => (simp only [List.getElem?_toArray, List.getElem?_cons_succ, List.getElem?_cons_zero]; rfl)
    case yi_1_12 => exact Or.inr ⟨by rfl, rfl⟩
    try simp only [Act.put, List.setIfInBounds_toArray, List.set_cons_zero, List.set_cons_succ]
    refine wpAnyH_take (i := 13) (oi := ?oq_1_13) (v := undef) ?op_1_13 (by kernel_rfl) (by kernel_rfl) (by kernel_rfl) (fun _ _ _ h => h) ?yi_1_13 hHeld ?re_1_13
    case op_1_13 => (simp only [List.getElem?_toArray, List.getElem?_cons_succ, List.getElem?_cons_zero]; rfl)
    case yi_1_13 => exact Or.inr ⟨by rfl, rfl⟩
    try simp only [Act.put, List.setIfInBounds_toArray, List.set_cons_zero, List.set_cons_succ]
    refine wpAnyH_take (i := 14) (oi := ?oq_1_14) (v := ?va_1_14) ?op_1_14 (by kernel_rfl) (by kernel_rfl) (by kernel_rfl) (fun _ _ _ h => h) ?yi_1_14 hHeld ?re_1_14
    case op_1_14 => (simp only [List.getElem?_toArray, List.getElem?_cons_succ, List.getElem?_cons_zero]; rfl)
    case yi_1_14 =>
      refine Or.inl ⟨by rfl, ?_⟩
      intro w hSw
      try dsimp only at hSw
      go_simp
      all_goals with_reducible rfl
    try simp only [Act.put, List.setIfInBounds_toArray, List.set_cons_zero, List.set_cons_succ]
    refine wpAnyH_take (i := 15) (oi := ?oq_1_15) (v := ?va_1_15) ?op_1_15 (by kernel_rfl) (by kernel_rfl) (by kernel_rfl) (fun _ _ _ h => h) ?yi_1_15 hHeld ?re_1_15
    case op_1_15 => (simp only [List.getElem?_toArray, List.getElem?_cons_succ, List.getElem?_cons_zero]; rfl)
    case yi_1_15 =>
      refine Or.inl ⟨by rfl, ?_⟩
      intro w hSw
      try dsimp only at hSw
      go_simp
      all_goals with_reducible rfl
    try simp only [Act.put, List.setIfInBounds_toArray, List.set_cons_zero, List.set_cons_succ]
    refine wpAnyH_take (i := 16) (oi := ?oq_1_16) (v := undef) ?op_1_16 (by kernel_rfl) (by kernel_rfl) (by kernel_rfl) (fun _ _ _ h => h) ?yi_1_16 hHeld ?re_1_16
    case op_1_16 => (simp only [List.getElem?_toArray, List.getElem?_cons_succ, List.getElem?_cons_zero]; rfl)
    case yi_1_16 => exact Or.inr ⟨by rfl, rfl⟩
    try simp only [Act.put, List.setIfInBounds_toArray, List.set_cons_zero, List.set_cons_succ]
    refine wpAnyH_take (i := 17) (oi := ?oq_1_17) (v := undef) ?op_1_17 (by kernel_rfl) (by kernel_rfl) (by kernel_rfl) (fun _ _ _ h => h) ?yi_1_17 hHeld ?re_1_17
    case op_1_17 => (simp only [List.getElem?_toArray, List.getElem?_cons_succ, List.getElem?_cons_zero]; rfl)
    case yi_1_17 => exact Or.inr ⟨by rfl, rfl⟩
    try simp only [Act.put, List.setIfInBounds_toArray, List.set_cons_zero, List.set_cons_succ]
    refine wpAnyH_take (i := 18) (oi := ?oq_1_18) (v := undef) ?op_1_18 (by kernel_rfl) (by kernel_rfl) (by kernel_rfl) (fun _ _ _ h => h) ?yi_1_18 hHeld ?re_1_18
    case op_1_18 => (simp only [List.getElem?_toArray, List.getElem?_cons_succ, List.getElem?_cons_zero]; rfl)
    case yi_1_18 => exact Or.inr ⟨by rfl, rfl⟩
    try simp only [Act.put, List.setIfInBounds_toArray, List.set_cons_zero, List.set_cons_succ]
    refine wpAnyH_take (i := 19) (oi := ?oq_1_19) (v := undef) ?op_1_19 (by kernel_rfl) (by kernel_rfl) (by kernel_rfl) (fun _ _ _ h => h) ?yi_1_19 hHeld ?re_1_19
    case op_1_19 => (simp only [List.getElem?_toArray, List.getElem?_cons_succ, List.getElem?_cons_zero]; rfl)
    case yi_1_19 => exact Or.inr ⟨by rfl, rfl⟩
    try simp only [Act.put, List.setIfInBounds_toArray, List.set_cons_zero, List.set_cons_succ]
    refine wpAnyH_take (i := 20) (oi := ?oq_1_20) (v := ?va_1_20) ?op_1_20 (by kernel_rfl) (by kernel_rfl) (by kernel_rfl) (fun _ _ _ h => h) ?yi_1_20 hHeld ?re_1_20
    case op_1_20 => (simp only [List.getElem?_toArray, List.getElem?_cons_succ, List.getElem?_cons_zero]; rfl)
    case yi_1_20 =>
      refine Or.inl ⟨by rfl, ?_⟩
      intro w hSw
      try dsimp only at hSw
      go_simp
      all_goals with_reducible rfl
    try simp only [Act.put, List.setIfInBounds_toArray, List.set_cons_zero, List.set_cons_succ]
    refine wpAnyH_done (by kernel_rfl) ?_ _
    refine NoPanic.normal ?_
    go_wp2_with fail
    go_ret
    exact ⟨by rw [← HB.out, HE.out]; rfl, hb⟩
  by_cases k2 : 15 < M.kind
  · have HE := Lib.hid (show mayW M = false by rw [Bool.eq_false_iff]; intro h; have := (mayW_iff.1 h).2.1; omega)
    refine wp_region_noPanic ?_
    refine wp_region_held_drew (S := (fun w' => w'.cell? ⟨m, 0, none⟩ = some (.int .i64 M.kind) ∧ w'.cell? ⟨m, 26, none⟩ = some (.slice a2 M.fires.length cap2) ∧ BlkAt w' m 34 cs)) (by kernel_rfl) (by exact ⟨hM.cell h0, hM.cell h26, hM⟩) (fun hHeld => ?_)
    refine wpAnyH_take (i := 0) (oi := ?oq_2_0) (v := ?va_2_0) ?op_2_0 (by kernel_rfl) (by kernel_rfl) (by kernel_rfl) (fun _ _ _ h => h) ?yi_2_0 hHeld ?re_2_0
    case op_2_0 => (simp only [List.getElem?_toArray, List.getElem?_cons_zero]; rfl)
    case yi_2_0 =>
      refine Or.inl ⟨by rfl, ?_⟩
      intro w hSw
      try dsimp only at hSw
      go_simp
      all_goals with_reducible rfl
    try simp only [Act.put, List.setIfInBounds_toArray, List.set_cons_zero, List.set_cons_succ]
    refine wpAnyH_take (i := 1) (oi := ?oq_2_1) (v := ?va_2_1) ?op_2_1 (by kernel_rfl) (by kernel_rfl) (by kernel_rfl) (fun _ _ _ h => h) ?yi_2_1 hHeld ?re_2_1
    case op_2_1 => (simp only [List.getElem?_toArray, List.getElem?_cons_succ, List.getElem?_cons_zero]; rfl)
    case yi_2_1 =>
      refine Or.inl ⟨by rfl, ?_⟩
      intro w hSw
      try dsimp only at hSw
      go_simp
      all_goals with_reducible rfl
    try simp only [Act.put, List.setIfInBounds_toArray, List.set_cons_zero, List.set_cons_succ]
    refine wpAnyH_take (i := 2) (oi := ?oq_2_2) (v := ?va_2_2) ?op_2_2 (by kernel_rfl) (by kernel_rfl) (by kernel_rfl) (fun _ _ _ h => h) ?yi_2_2 hHeld ?re_2_2
    case op_2_2 => (simp only [List.getElem?_toArray, List.getElem?_cons_succ, List.getElem?_cons_zero]; rfl)
    case yi_2_2 =>
      refine Or.inl ⟨by rfl, ?_⟩
      intro w hSw
      try dsimp only at hSw
      go_simp
      all_goals with_reducible rfl
    try simp only [Act.put, List.setIfInBounds_toArray, List.set_cons_zero, List.set_cons_succ]
    refine wpAnyH_take (i := 3) (oi := ?oq_2_3) (v := ?va_2_3) ?op_2_3 (by kernel_rfl) (by kernel_rfl) (by kernel_rfl) (fun _ _ _ h => h) ?yi_2_3 hHeld ?re_2_3
    case op_2_3 => (simp only [List.getElem?_toArray, List.getElem?_cons_succ, List.getElem?_cons_zero]; rfl)
    case yi_2_3 =>
      refine Or.inl ⟨by rfl, ?_⟩
      intro w hSw
      try dsimp only at hSw
      go_simp
      all_goals with_reducible rfl
    try simp only [Act.put, List.setIfInBounds_toArray, List.set_cons_zero, List.set_cons_succ]
    refine wpAnyH_take (i := 4) (oi := ?oq_2_4) (v := ?va_2_4) ?op_2_4 (by kernel_rfl) (by kernel_rfl) (by kernel_rfl) (fun _ _ _ h => h) ?yi_2_4 hHeld ?re_2_4
    case op_2_4 => (simp only [List.getElem?_toArray, List.getElem?_cons_succ, List.getElem?_cons_zero]; rfl)
    case yi_2_4 =>
      refine Or.inl ⟨by rfl, ?_⟩
      intro w hSw
      try dsimp only at hSw
      go_simp
      all_goals with_reducible rfl
    try simp only [Act.put, List.setIfInBounds_toArray, List.set_cons_zero, List.set_cons_succ]
    refine wpAnyH_take (i := 5) (oi := ?oq_2_5) (v := ?va_2_5) ?op_2_5 (by kernel_rfl) (by kernel_rfl) (by kernel_rfl) (fun _ _ _ h => h) ?yi_2_5 hHeld ?re_2_5
    case op_2_5 => (simp only [List.getElem?_toArray, List.getElem?_cons_succ, List.getElem?_cons_zero]; rfl)
    case yi_2_5 =>
      refine Or.inl ⟨by rfl, ?_⟩
      intro w hSw
      try dsimp only at hSw
      go_simp
      all_goals with_reducible rfl
    try simp only [Act.put, List.setIfInBounds_toArray, List.set_cons_zero, List.set_cons_succ]
    refine wpAnyH_take (i := 6) (oi := ?oq_2_6) (v := ?va_2_6) ?op_2_6 (by kernel_rfl) (by kernel_rfl) (by kernel_rfl) (fun _ _ _ h => h) ?yi_2_6 hHeld ?re_2_6
    case op_2_6 => (simp only [List.getElem?_toArray, List.getElem?_cons_succ, List.getElem?_cons_zero]; rfl)
    case yi_2_6 =>
      refine Or.inl ⟨by rfl, ?_⟩
      intro w hSw
      try dsimp only at hSw
      go_simp
      all_goals with_reducible rfl
    try simp only [Act.put, List.setIfInBounds_toArray, List.set_cons_zero, List.set_cons_succ]
    refine wpAnyH_take (i := 7) (oi := ?oq_2_7) (v := ?va_2_7) ?op_2_7 (by kernel_rfl) (by kernel_rfl) (by kernel_rfl) (fun _ _ _ h => h) ?yi_2_7 hHeld ?re_2_7
    case op_2_7 => (simp only [List.getElem?_toArray, List.getElem?_cons_succ, List.getElem?_cons_zero]; rfl)
    case yi_2_7 =>
      refine Or.inl ⟨by rfl, ?_⟩
      intro w hSw
      try dsimp only at hSw
      go_simp
      all_goals with_reducible rfl
    try simp only [Act.put, List.setIfInBounds_toArray, List.set_cons_zero, List.set_cons_succ]
    refine wpAnyH_take (i := 8) (oi := ?oq_2_8) (v := ?va_2_8) ?op_2_8 (by kernel_rfl) (by kernel_rfl) (by kernel_rfl) (fun _ _ _ h => h) ?yi_2_8 hHeld ?re_2_8
    case op_2_8 => (simp only [List.getElem?_toArray, List.getElem?_cons_succ, List.getElem?_cons_zero]; rfl)
    case yi_2_8 =>
      refine Or.inl ⟨by rfl, ?_⟩
      intro w hSw
      try dsimp only at hSw
      go_simp
      all_goals with_reducible rfl
    try simp only [Act.put, List.setIfInBounds_toArray, List.set_cons_zero, List.set_cons_succ]
    refine wpAnyH_take (i := 9) (oi := ?oq_2_9) (v := undef) ?op_2_9 (by kernel_rfl) (by kernel_rfl) (by kernel_rfl) (fun _ _ _ h => h) ?yi_2_9 hHeld ?re_2_9
    case op_2_9 => (simp only [List.getElem?_toArray, List.getElem?_cons_succ, List.getElem?_cons_zero]; rfl)
    case yi_2_9 => exact Or.inr ⟨by rfl, rfl⟩
    try simp only [Act.put, List.setIfInBounds_toArray, List.set_cons_zero, List.set_cons_succ]
    refine wpAnyH_take (i := 10) (oi := ?oq_2_10) (v := undef) ?op_2_10 (by kernel_rfl) (by kernel_rfl) (by kernel_rfl) (fun _ _ _ h => h) ?yi_2_10 hHeld ?re_2_10
    case op_2_10 => (simp only [List.getElem?_toArray, List.getElem?_cons_succ, List.getElem?_cons_zero]; rfl)
    case yi_2_10 => exact Or.inr ⟨by rfl, rfl⟩
    try simp only [Act.put, List.setIfInBounds_toArray, List.set_cons_zero, List.set_cons_succ]
    refine wpAnyH_take (i := 11) (oi := ?oq_2_11) (v := undef) ?op_2_11 (by kernel_rfl) (by kernel_rfl) (by kernel_rfl) (fun _ _ _ h => h) ?yi_2_11 hHeld ?re_2_11
    case op_2_11 => (simp only [List.getElem?_toArray, List.getElem?_cons_succ, List.getElem?_cons_zero]; rfl)
    case yi_2_11 => exact Or.inr ⟨by rfl, rfl⟩
    try simp only [Act.put, List.setIfInBounds_toArray, List.set_cons_zero, List.set_cons_succ]
    refine wpAnyH_take (i := 12) (oi := ?oq_2_12) (v := undef) ?op_2_12 (by kernel_rfl) (by kernel_rfl) (by kernel_rfl) (fun _ _ _ h => h) ?yi_2_12 hHeld ?re_2_12
    case op_2_12 => (simp only [List.getElem?_toArray, List.getElem?_cons_succ, List.getElem?_cons_zero]; rfl)
    case yi_2_12 => exact Or.inr ⟨by rfl, rfl⟩
    try simp only [Act.put, List.setIfInBounds_toArray, List.set_cons_zero, List.set_cons_succ]
    refine wpAnyH_take (i := 13) (oi := ?oq_2_13) (v := undef) ?op_2_13 (by kernel_rfl) (by kernel_rfl) (by kernel_rfl) (fun _ _ _ h => h) ?yi_2_13 hHeld ?re_2_13
    case op_2_13 => (simp only [List.getElem?_toArray, List.getElem?_cons_succ, List.getElem?_cons_zero]; rfl)
    case yi_2_13 => exact Or.inr ⟨by rfl, rfl⟩
    try simp only [Act.put, List.setIfInBounds_toArray, List.set_cons_zero, List.set_cons_succ]
    refine wpAnyH_take (i := 14) (oi := ?oq_2_14) (v := ?va_2_14) ?op_2_14 (by kernel_rfl) (by kernel_rfl) (by kernel_rfl) (fun _ _ _ h => h) ?yi_2_14 hHeld ?re_2_14
    case op_2_14 => (simp only [List.getElem?_toArray, List.getElem?_cons_succ, List.getElem?_cons_zero]; rfl)
    case yi_2_14 =>
      refine Or.inl ⟨by rfl, ?_⟩
      intro w hSw
      try dsimp only at hSw
      go_simp
      all_goals with_reducible rfl
    try simp only [Act.put, List.setIfInBounds_toArray, List.set_cons_zero, List.set_cons_succ]
    refine wpAnyH_take (i := 15) (oi := ?oq_2_15) (v := ?va_2_15) ?op_2_15 (by kernel_rfl) (by kernel_rfl) (by kernel_rfl) (fun _ _ _ h => h) ?yi_2_15 hHeld ?re_2_15
    case op_2_15 => (simp only [List.getElem?_toArray, List.getElem?_cons_succ, List.getElem?_cons_zero]; rfl)
    case yi_2_15 =>
      refine Or.inl ⟨by rfl, ?_⟩
      intro w hSw
      try dsimp only at hSw
      go_simp
      all_goals with_reducible rfl
    try simp only [Act.put, List.setIfInBounds_toArray, List.set_cons_zero, List.set_cons_succ]
    refine wpAnyH_take (i := 16) (oi := ?oq_2_16) (v := undef) ?op_2_16 (by kernel_rfl) (by kernel_rfl) (by kernel_rfl) (fun _ _ _ h => h) ?yi_2_16 hHeld ?re_2_16
    case op_2_16 => (simp only [List.getElem?_toArray, List.getElem?_cons_succ, List.getElem?_cons_zero]; rfl)
    case yi_2_16 => exact Or.inr ⟨by rfl, rfl⟩
    try simp only [Act.put, List.setIfInBounds_toArray, List.set_cons_zero, List.set_cons_succ]
    refine wpAnyH_take (i := 17) (oi := ?oq_2_17) (v := undef) ?op_2_17 (by kernel_rfl) (by kernel_rfl) (by kernel_rfl) (fun _ _ _ h => h) ?yi_2_17 hHeld ?re_2_17
    case op_2_17 => (simp only [List.getElem?_toArray, List.getElem?_cons_succ, List.getElem?_cons_zero]; rfl)
    case yi_2_17 => exact Or.inr ⟨by rfl, rfl⟩
    try simp only [Act.put, List.setIfInBounds_toArray, List.set_cons_zero, List.set_cons_succ]
    refine wpAnyH_take (i := 18) (oi := ?oq_2_18) (v := undef) ?op_2_18 (by kernel_rfl) (by kernel_rfl) (by kernel_rfl) (fun _ _ _ h => h) ?yi_2_18 hHeld ?re_2_18
    case op_2_18 => (simp only [List.getElem?_toArray, List.getElem?_cons_succ, List.getElem?_cons_zero]; rfl)
    case yi_2_18 => exact Or.inr ⟨by rfl, rfl⟩
    try simp only [Act.put, List.setIfInBounds_toArray, List.set_cons_zero, List.set_cons_succ]
    refine wpAnyH_take (i := 19) (oi := ?oq_2_19) (v := undef) ?op_2_19 (by kernel_rfl) (by kernel_rfl) (by kernel_rfl) (fun _ _ _ h => h) ?yi_2_19 hHeld ?re_2_19
    case op_2_19 => (simp only [List.getElem?_toArray, List.getElem?_cons_succ, List.getElem?_cons_zero]; rfl)
    case yi_2_19 => exact Or.inr ⟨by rfl, rfl⟩
    try simp only [Act.put, List.setIfInBounds_toArray, List.set_cons_zero, List.set_cons_succ]
    refine wpAnyH_take (i := 20) (oi := ?oq_2_20) (v := ?va_2_20) ?op_2_20 (by kernel_rfl) (by kernel_rfl) (by kernel_rfl) (fun _ _ _ h => h) ?yi_2_20 hHeld ?re_2_20
    case op_2_20 => (simp only [List.getElem?_toArray, List.getElem?_cons_succ, List.getElem?_cons_zero]; rfl)
    case yi_2_20 =>
      refine Or.inl ⟨by rfl, ?_⟩
      intro w hSw
      try dsimp only at hSw
      go_simp
      all_goals with_reducible rfl
    try simp only [Act.put, List.setIfInBounds_toArray, List.set_cons_zero, List.set_cons_succ]
    refine wpAnyH_done (by kernel_rfl) ?_ _
    refine NoPanic.normal ?_
    go_wp2_with fail
    go_ret
    exact ⟨by rw [← HB.out, HE.out]; rfl, hb⟩
  cases q with
  | false =>
    have HE := Lib.hid (show mayW M = false by rw [Bool.eq_false_iff]; intro h; exact absurd (mayW_iff.1 h).2.2.1 (of_decide_eq_false HQ.out.symm))
    refine wp_region_noPanic ?_
    refine wp_region_held_drew (S := (fun w' => w'.cell? ⟨m, 0, none⟩ = some (.int .i64 M.kind) ∧ w'.cell? ⟨m, 26, none⟩ = some (.slice a2 M.fires.length cap2) ∧ BlkAt w' m 34 cs)) (by kernel_rfl) (by exact ⟨hM.cell h0, hM.cell h26, hM⟩) (fun hHeld => ?_)
    refine wpAnyH_take (i := 0) (oi := ?oq_3_0) (v := ?va_3_0) ?op_3_0 (by kernel_rfl) (by kernel_rfl) (by kernel_rfl) (fun _ _ _ h => h) ?yi_3_0 hHeld ?re_3_0
    case op_3_0 => (simp only [List.getElem?_toArray, List.getElem?_cons_zero]; rfl)
    case yi_3_0 =>
      refine Or.inl ⟨by rfl, ?_⟩
      intro w hSw
      try dsimp only at hSw
      go_simp
      all_goals with_reducible rfl
    try simp only [Act.put, List.setIfInBounds_toArray, List.set_cons_zero, List.set_cons_succ]
    refine wpAnyH_take (i := 1) (oi := ?oq_3_1) (v := ?va_3_1) ?op_3_1 (by kernel_rfl) (by kernel_rfl) (by kernel_rfl) (fun _ _ _ h => h) ?yi_3_1 hHeld ?re_3_1
    case op_3_1 => (simp only [List.getElem?_toArray, List.getElem?_cons_succ, List.getElem?_cons_zero]; rfl)
    case yi_3_1 =>
      refine Or.inl ⟨by rfl, ?_⟩
      intro w hSw
      try dsimp only at hSw
      go_simp
      all_goals with_reducible rfl
    try simp only [Act.put, List.setIfInBounds_toArray, List.set_cons_zero, List.set_cons_succ]
    refine wpAnyH_take (i := 2) (oi := ?oq_3_2) (v := ?va_3_2) ?op_3_2 (by kernel_rfl) (by kernel_rfl) (by kernel_rfl) (fun _ _ _ h => h) ?yi_3_2 hHeld ?re_3_2
    case op_3_2 => (simp only [List.getElem?_toArray, List.getElem?_cons_succ, List.getElem?_cons_zero]; rfl)
    case yi_3_2 =>
      refine Or.inl ⟨by rfl, ?_⟩
      intro w hSw
      try dsimp only at hSw
      go_simp
      all_goals with_reducible rfl
    try simp only [Act.put, List.setIfInBounds_toArray, List.set_cons_zero, List.set_cons_succ]
    refine wpAnyH_take (i := 3) (oi := ?oq_3_3) (v := ?va_3_3) ?op_3_3 (by kernel_rfl) (by kernel_rfl) (by kernel_rfl) (fun _ _ _ h => h) ?yi_3_3 hHeld ?re_3_3
    case op_3_3 => (simp only [List.getElem?_toArray, List.getElem?_cons_succ, List.getElem?_cons_zero]; rfl)
    case yi_3_3 =>
      refine Or.inl ⟨by rfl, ?_⟩
      intro w hSw
      try dsimp only at hSw
      go_simp
      all_goals with_reducible rfl
    try simp only [Act.put, List.setIfInBounds_toArray, List.set_cons_zero, List.set_cons_succ]
    refine wpAnyH_take (i := 4) (oi := ?oq_3_4) (v := ?va_3_4) ?op_3_4 (by kernel_rfl) (by kernel_rfl) (by kernel_rfl) (fun _ _ _ h => h) ?yi_3_4 hHeld ?re_3_4
    case op_3_4 => (simp only [List.getElem?_toArray, List.getElem?_cons_succ, List.getElem?_cons_zero]; rfl)
    case yi_3_4 =>
      refine Or.inl ⟨by rfl, ?_⟩
      intro w hSw
      try dsimp only at hSw
      go_simp
      all_goals with_reducible rfl
    try simp only [Act.put, List.setIfInBounds_toArray, List.set_cons_zero, List.set_cons_succ]
    refine wpAnyH_take (i := 5) (oi := ?oq_3_5) (v := ?va_3_5) ?op_3_5 (by kernel_rfl) (by kernel_rfl) (by kernel_rfl) (fun _ _ _ h => h) ?yi_3_5 hHeld ?re_3_5
    case op_3_5 => (simp only [List.getElem?_toArray, List.getElem?_cons_succ, List.getElem?_cons_zero]; rfl)
    case yi_3_5 =>
      refine Or.inl ⟨by rfl, ?_⟩
      intro w hSw
      try dsimp only at hSw
      go_simp
      all_goals with_reducible rfl
    try simp only [Act.put, List.setIfInBounds_toArray, List.set_cons_zero, List.set_cons_succ]
    refine wpAnyH_take (i := 6) (oi := ?oq_3_6) (v := ?va_3_6) ?op_3_6 (by kernel_rfl) (by kernel_rfl) (by kernel_rfl) (fun _ _ _ h => h) ?yi_3_6 hHeld ?re_3_6
    case op_3_6 => (simp only [List.getElem?_toArray, List.getElem?_cons_succ, List.getElem?_cons_zero]; rfl)
    case yi_3_6 =>
      refine Or.inl ⟨by rfl, ?_⟩
      intro w hSw
      try dsimp only at hSw
      go_simp
      all_goals with_reducible rfl
    try simp only [Act.put, List.setIfInBounds_toArray, List.set_cons_zero, List.set_cons_succ]
    refine wpAnyH_take (i := 7) (oi := ?oq_3_7) (v := ?va_3_7) ?op_3_7 (by kernel_rfl) (by kernel_rfl) (by kernel_rfl) (fun _ _ _ h => h) ?yi_3_7 hHeld ?re_3_7
    case op_3_7 => (simp only [List.getElem?_toArray, List.getElem?_cons_succ, List.getElem?_cons_zero]; rfl)
    case yi_3_7 =>
      refine Or.inl ⟨by rfl, ?_⟩
      intro w hSw
      try dsimp only at hSw
      go_simp
      all_goals with_reducible rfl
    try simp only [Act.put, List.setIfInBounds_toArray, List.set_cons_zero, List.set_cons_succ]
    refine wpAnyH_take (i := 8) (oi := ?oq_3_8) (v := ?va_3_8) ?op_3_8 (by kernel_rfl) (by kernel_rfl) (by kernel_rfl) (fun _ _ _ h => h) ?yi_3_8 hHeld ?re_3_8
    case op_3_8 => (simp only [List.getElem?_toArray, List.getElem?_cons_succ, List.getElem?_cons_zero]; rfl)
    case yi_3_8 =>
      refine Or.inl ⟨by rfl, ?_⟩
      intro w hSw
      try dsimp only at hSw
      go_simp
      all_goals with_reducible rfl
    try simp only [Act.put, List.setIfInBounds_toArray, List.set_cons_zero, List.set_cons_succ]
    refine wpAnyH_take (i := 9) (oi := ?oq_3_9) (v := ?va_3_9) ?op_3_9 (by kernel_rfl) (by kernel_rfl) (by kernel_rfl) (fun _ _ _ h => h) ?yi_3_9 hHeld ?re_3_9
    case op_3_9 => (simp only [List.getElem?_toArray, List.getElem?_cons_succ, List.getElem?_cons_zero]; rfl)
    case yi_3_9 => exact (by
      refine yieldsIf_load_mid ?_ 34 (.tmp 1) ?_ m 0 ?_ cs _ ?_ Tryz.underlying34 ?_ (by rw [hlen]; exact msg_info)
      · rfl
      · rfl
      · rfl
      · intro w h
        have h : _ ∧ _ ∧ _ := h
        exact BlkAt.range h.2.2
      · rfl)
    try simp only [Act.put, List.setIfInBounds_toArray, List.set_cons_zero, List.set_cons_succ]
    refine wpAnyH_take (i := 10) (oi := ?oq_3_10) (v := ?va_3_10) ?op_3_10 (by kernel_rfl) (by kernel_rfl) (by kernel_rfl) (fun _ _ _ h => h) ?yi_3_10 hHeld ?re_3_10
    case op_3_10 => (simp only [List.getElem?_toArray, List.getElem?_cons_succ, List.getElem?_cons_zero]; rfl)
    case yi_3_10 => exact (by
      refine yieldsIf_load_mid ?_ 34 (.tmp 1) ?_ m 0 ?_ cs _ ?_ Tryz.underlying34 ?_ (by rw [hlen]; exact msg_info)
      · rfl
      · rfl
      · rfl
      · intro w h
        have h : _ ∧ _ ∧ _ := h
        exact BlkAt.range h.2.2
      · rfl)
    try simp only [Act.put, List.setIfInBounds_toArray, List.set_cons_zero, List.set_cons_succ]
    refine wpAnyH_ready (rs := [11]) (by kernel_rfl) (by simp) (AllReadyH.cons (o := ?oq_3_11) ?op_3_11 (fun K hK => ?re_3_11) AllReadyH.nil)
    case op_3_11 => (simp only [List.getElem?_toArray, List.getElem?_cons_succ, List.getElem?_cons_zero]; rfl)
    go_simp
    go_at_call 17
    refine (qonly_any (by exact hA) hop ⟨by omega, by omega⟩).mono ?_
    rintro en z1 ⟨ov, rfl, hOn, b9⟩
    have hMq := hM.below b9
    clear hM
    have hM := hMq
    clear hMq
    have hAq := hA.below b9
    clear hA
    have hA := hAq
    clear hAq
    have hbq := below_step hb b9
    clear hb
    have hb := hbq
    clear hbq b9
    refine hK.out _ _ (by exact ⟨hM.cell h0, hM.cell h26, hM⟩) (fun hHeld => ?_)
    clear hK K
    try simp only [Act.put, List.setIfInBounds_toArray, List.set_cons_zero, List.set_cons_succ]
    refine wpAnyH_ready (rs := [12]) (by kernel_rfl) (by simp) (AllReadyH.cons (o := ?oq_3_12) ?op_3_12 (fun K hK => ?re_3_12) AllReadyH.nil)
    case op_3_12 => (simp only [List.getElem?_toArray, List.getElem?_cons_succ, List.getElem?_cons_zero]; rfl)
    go_simp
    go_at_call 11
    refine (qwsame_any (by exact hA) (by exact hOn) hop hop3).mono ?_
    rintro en z2 ⟨rfl, b9⟩
    rw [← HQ.out]
    have hMq := hM.below b9
    clear hM
    have hM := hMq
    clear hMq
    have hAq := hA.below b9
    clear hA
    have hA := hAq
    clear hAq
    have hbq := below_step hb b9
    clear hb
    have hb := hbq
    clear hbq b9
    refine hK.out _ _ (by exact ⟨hM.cell h0, hM.cell h26, hM⟩) (fun hHeld => ?_)
    clear hK K
    try simp only [Act.put, List.setIfInBounds_toArray, List.set_cons_zero, List.set_cons_succ]
    refine wpAnyH_take (i := 13) (oi := ?oq_3_13) (v := ?va_3_13) ?op_3_13 (by kernel_rfl) (by kernel_rfl) (by kernel_rfl) (fun _ _ _ h => h) ?yi_3_13 hHeld ?re_3_13
    case op_3_13 => (simp only [List.getElem?_toArray, List.getElem?_cons_succ, List.getElem?_cons_zero]; rfl)
    case yi_3_13 =>
      refine Or.inl ⟨by rfl, ?_⟩
      intro w hSw
      try dsimp only at hSw
      go_simp
      all_goals with_reducible rfl
    try simp only [Act.put, List.setIfInBounds_toArray, List.set_cons_zero, List.set_cons_succ]
    refine wpAnyH_take (i := 14) (oi := ?oq_3_14) (v := ?va_3_14) ?op_3_14 (by kernel_rfl) (by kernel_rfl) (by kernel_rfl) (fun _ _ _ h => h) ?yi_3_14 hHeld ?re_3_14
    case op_3_14 => (simp only [List.getElem?_toArray, List.getElem?_cons_succ, List.getElem?_cons_zero]; rfl)
    case yi_3_14 =>
      refine Or.inl ⟨by rfl, ?_⟩
      intro w hSw
      try dsimp only at hSw
      go_simp
      all_goals with_reducible rfl
    try simp only [Act.put, List.setIfInBounds_toArray, List.set_cons_zero, List.set_cons_succ]
    refine wpAnyH_take (i := 15) (oi := ?oq_3_15) (v := ?va_3_15) ?op_3_15 (by kernel_rfl) (by kernel_rfl) (by kernel_rfl) (fun _ _ _ h => h) ?yi_3_15 hHeld ?re_3_15
    case op_3_15 => (simp only [List.getElem?_toArray, List.getElem?_cons_succ, List.getElem?_cons_zero]; rfl)
    case yi_3_15 =>
      refine Or.inl ⟨by rfl, ?_⟩
      intro w hSw
      try dsimp only at hSw
      go_simp
      all_goals with_reducible rfl
    try simp only [Act.put, List.setIfInBounds_toArray, List.set_cons_zero, List.set_cons_succ]
    refine wpAnyH_take (i := 16) (oi := ?oq_3_16) (v := undef) ?op_3_16 (by kernel_rfl) (by kernel_rfl) (by kernel_rfl) (fun _ _ _ h => h) ?yi_3_16 hHeld ?re_3_16
    case op_3_16 => (simp only [List.getElem?_toArray, List.getElem?_cons_succ, List.getElem?_cons_zero]; rfl)
    case yi_3_16 => exact Or.inr ⟨by rfl, rfl⟩
    try simp only [Act.put, List.setIfInBounds_toArray, List.set_cons_zero, List.set_cons_succ]
    refine wpAnyH_take (i := 17) (oi := ?oq_3_17) (v := undef) ?op_3_17 (by kernel_rfl) (by kernel_rfl) (by kernel_rfl) (fun _ _ _ h => h) ?yi_3_17 hHeld ?re_3_17
    case op_3_17 => (simp only [List.getElem?_toArray, List.getElem?_cons_succ, List.getElem?_cons_zero]; rfl)
    case yi_3_17 => exact Or.inr ⟨by rfl, rfl⟩
    try simp only [Act.put, List.setIfInBounds_toArray, List.set_cons_zero, List.set_cons_succ]
    refine wpAnyH_take (i := 18) (oi := ?oq_3_18) (v := undef) ?op_3_18 (by kernel_rfl) (by kernel_rfl) (by kernel_rfl) (fun _ _ _ h => h) ?yi_3_18 hHeld ?re_3_18
    case op_3_18 => (simp only [List.getElem?_toArray, List.getElem?_cons_succ, List.getElem?_cons_zero]; rfl)
    case yi_3_18 => exact Or.inr ⟨by rfl, rfl⟩
    try simp only [Act.put, List.setIfInBounds_toArray, List.set_cons_zero, List.set_cons_succ]
    refine wpAnyH_take (i := 19) (oi := ?oq_3_19) (v := undef) ?op_3_19 (by kernel_rfl) (by kernel_rfl) (by kernel_rfl) (fun _ _ _ h => h) ?yi_3_19 hHeld ?re_3_19
    case op_3_19 => (simp only [List.getElem?_toArray, List.getElem?_cons_succ, List.getElem?_cons_zero]; rfl)
    case yi_3_19 => exact Or.inr ⟨by rfl, rfl⟩
    try simp only [Act.put, List.setIfInBounds_toArray, List.set_cons_zero, List.set_cons_succ]
    refine wpAnyH_take (i := 20) (oi := ?oq_3_20) (v := ?va_3_20) ?op_3_20 (by kernel_rfl) (by kernel_rfl) (by kernel_rfl) (fun _ _ _ h => h) ?yi_3_20 hHeld ?re_3_20
    case op_3_20 => (simp only [List.getElem?_toArray, List.getElem?_cons_succ, List.getElem?_cons_zero]; rfl)
    case yi_3_20 =>
      refine Or.inl ⟨by rfl, ?_⟩
      intro w hSw
      try dsimp only at hSw
      go_simp
      all_goals with_reducible rfl
    try simp only [Act.put, List.setIfInBounds_toArray, List.set_cons_zero, List.set_cons_succ]
    refine wpAnyH_done (by kernel_rfl) ?_ _
    refine NoPanic.normal ?_
    go_wp2_with fail
    go_ret
    exact ⟨by rw [← HB.out, HE.out]; rfl, hb⟩
  | true =>
    by_cases k3 : 8 < M.fires.length
    · have k3' : (8 : Int) < (M.fires.length : Int) := by omega
      have HE := Lib.hid (show mayW M = false by rw [Bool.eq_false_iff]; intro h; have := (mayW_iff.1 h).2.2.2.1; omega)
      refine wp_region_noPanic ?_
      refine wp_region_held_drew (S := (fun w' => w'.cell? ⟨m, 0, none⟩ = some (.int .i64 M.kind) ∧ w'.cell? ⟨m, 26, none⟩ = some (.slice a2 M.fires.length cap2) ∧ BlkAt w' m 34 cs)) (by kernel_rfl) (by exact ⟨hM.cell h0, hM.cell h26, hM⟩) (fun hHeld => ?_)
      refine wpAnyH_take (i := 0) (oi := ?oq_4_0) (v := ?va_4_0) ?op_4_0 (by kernel_rfl) (by kernel_rfl) (by kernel_rfl) (fun _ _ _ h => h) ?yi_4_0 hHeld ?re_4_0
      case op_4_0 => (simp only [List.getElem?_toArray, List.getElem?_cons_zero]; rfl)
      case yi_4_0 =>
        refine Or.inl ⟨by rfl, ?_⟩
        intro w hSw
        try dsimp only at hSw
        go_simp
        all_goals with_reducible rfl
      try simp only [Act.put, List.setIfInBounds_toArray, List.set_cons_zero, List.set_cons_succ]
      refine wpAnyH_take (i := 1) (oi := ?oq_4_1) (v := ?va_4_1) ?op_4_1 (by kernel_rfl) (by kernel_rfl) (by kernel_rfl) (fun _ _ _ h => h) ?yi_4_1 hHeld ?re_4_1
      case op_4_1 => (simp only [List.getElem?_toArray, List.getElem?_cons_succ, List.getElem?_cons_zero]; rfl)
      case yi_4_1 =>
        refine Or.inl ⟨by rfl, ?_⟩
        intro w hSw
        try dsimp only at hSw
        go_simp
        all_goals with_reducible rfl
      try simp only [Act.put, List.setIfInBounds_toArray, List.set_cons_zero, List.set_cons_succ]
      refine wpAnyH_take (i := 2) (oi := ?oq_4_2) (v := ?va_4_2) ?op_4_2 (by kernel_rfl) (by kernel_rfl) (by kernel_rfl) (fun _ _ _ h => h) ?yi_4_2 hHeld ?re_4_2
      case op_4_2 => (simp only [List.getElem?_toArray, List.getElem?_cons_succ, List.getElem?_cons_zero]; rfl)
      case yi_4_2 =>
        refine Or.inl ⟨by rfl, ?_⟩
        intro w hSw
        try dsimp only at hSw
        go_simp
        all_goals with_reducible rfl
      try simp only [Act.put, List.setIfInBounds_toArray, List.set_cons_zero, List.set_cons_succ]
      refine wpAnyH_take (i := 3) (oi := ?oq_4_3) (v := ?va_4_3) ?op_4_3 (by kernel_rfl) (by kernel_rfl) (by kernel_rfl) (fun _ _ _ h => h) ?yi_4_3 hHeld ?re_4_3
      case op_4_3 => (simp only [List.getElem?_toArray, List.getElem?_cons_succ, List.getElem?_cons_zero]; rfl)
      case yi_4_3 =>
        refine Or.inl ⟨by rfl, ?_⟩
        intro w hSw
        try dsimp only at hSw
        go_simp
        all_goals with_reducible rfl
      try simp only [Act.put, List.setIfInBounds_toArray, List.set_cons_zero, List.set_cons_succ]
      refine wpAnyH_take (i := 4) (oi := ?oq_4_4) (v := ?va_4_4) ?op_4_4 (by kernel_rfl) (by kernel_rfl) (by kernel_rfl) (fun _ _ _ h => h) ?yi_4_4 hHeld ?re_4_4
      case op_4_4 => (simp only [List.getElem?_toArray, List.getElem?_cons_succ, List.getElem?_cons_zero]; rfl)
      case yi_4_4 =>
        refine Or.inl ⟨by rfl, ?_⟩
        intro w hSw
        try dsimp only at hSw
        go_simp
        all_goals with_reducible rfl
      try simp only [Act.put, List.setIfInBounds_toArray, List.set_cons_zero, List.set_cons_succ]
      refine wpAnyH_take (i := 5) (oi := ?oq_4_5) (v := ?va_4_5) ?op_4_5 (by kernel_rfl) (by kernel_rfl) (by kernel_rfl) (fun _ _ _ h => h) ?yi_4_5 hHeld ?re_4_5
      case op_4_5 => (simp only [List.getElem?_toArray, List.getElem?_cons_succ, List.getElem?_cons_zero]; rfl)
      case yi_4_5 =>
        refine Or.inl ⟨by rfl, ?_⟩
        intro w hSw
        try dsimp only at hSw
        go_simp
        all_goals with_reducible rfl
      try simp only [Act.put, List.setIfInBounds_toArray, List.set_cons_zero, List.set_cons_succ]
      refine wpAnyH_take (i := 6) (oi := ?oq_4_6) (v := ?va_4_6) ?op_4_6 (by kernel_rfl) (by kernel_rfl) (by kernel_rfl) (fun _ _ _ h => h) ?yi_4_6 hHeld ?re_4_6
      case op_4_6 => (simp only [List.getElem?_toArray, List.getElem?_cons_succ, List.getElem?_cons_zero]; rfl)
      case yi_4_6 =>
        refine Or.inl ⟨by rfl, ?_⟩
        intro w hSw
        try dsimp only at hSw
        go_simp
        all_goals with_reducible rfl
      try simp only [Act.put, List.setIfInBounds_toArray, List.set_cons_zero, List.set_cons_succ]
      refine wpAnyH_take (i := 7) (oi := ?oq_4_7) (v := ?va_4_7) ?op_4_7 (by kernel_rfl) (by kernel_rfl) (by kernel_rfl) (fun _ _ _ h => h) ?yi_4_7 hHeld ?re_4_7
      case op_4_7 => (simp only [List.getElem?_toArray, List.getElem?_cons_succ, List.getElem?_cons_zero]; rfl)
      case yi_4_7 =>
        refine Or.inl ⟨by rfl, ?_⟩
        intro w hSw
        try dsimp only at hSw
        go_simp
        all_goals with_reducible rfl
      try simp only [Act.put, List.setIfInBounds_toArray, List.set_cons_zero, List.set_cons_succ]
      refine wpAnyH_take (i := 8) (oi := ?oq_4_8) (v := ?va_4_8) ?op_4_8 (by kernel_rfl) (by kernel_rfl) (by kernel_rfl) (fun _ _ _ h => h) ?yi_4_8 hHeld ?re_4_8
      case op_4_8 => (simp only [List.getElem?_toArray, List.getElem?_cons_succ, List.getElem?_cons_zero]; rfl)
      case yi_4_8 =>
        refine Or.inl ⟨by rfl, ?_⟩
        intro w hSw
        try dsimp only at hSw
        go_simp
        all_goals with_reducible rfl
      try simp only [Act.put, List.setIfInBounds_toArray, List.set_cons_zero, List.set_cons_succ]
      refine wpAnyH_take (i := 9) (oi := ?oq_4_9) (v := ?va_4_9) ?op_4_9 (by kernel_rfl) (by kernel_rfl) (by kernel_rfl) (fun _ _ _ h => h) ?yi_4_9 hHeld ?re_4_9
      case op_4_9 => (simp only [List.getElem?_toArray, List.getElem?_cons_succ, List.getElem?_cons_zero]; rfl)
      case yi_4_9 => exact (by
        refine yieldsIf_load_mid ?_ 34 (.tmp 1) ?_ m 0 ?_ cs _ ?_ Tryz.underlying34 ?_ (by rw [hlen]; exact msg_info)
        · rfl
        · rfl
        · rfl
        · intro w h
          have h : _ ∧ _ ∧ _ := h
          exact BlkAt.range h.2.2
        · rfl)
      try simp only [Act.put, List.setIfInBounds_toArray, List.set_cons_zero, List.set_cons_succ]
      refine wpAnyH_take (i := 10) (oi := ?oq_4_10) (v := ?va_4_10) ?op_4_10 (by kernel_rfl) (by kernel_rfl) (by kernel_rfl) (fun _ _ _ h => h) ?yi_4_10 hHeld ?re_4_10
      case op_4_10 => (simp only [List.getElem?_toArray, List.getElem?_cons_succ, List.getElem?_cons_zero]; rfl)
      case yi_4_10 => exact (by
        refine yieldsIf_load_mid ?_ 34 (.tmp 1) ?_ m 0 ?_ cs _ ?_ Tryz.underlying34 ?_ (by rw [hlen]; exact msg_info)
        · rfl
        · rfl
        · rfl
        · intro w h
          have h : _ ∧ _ ∧ _ := h
          exact BlkAt.range h.2.2
        · rfl)
      try simp only [Act.put, List.setIfInBounds_toArray, List.set_cons_zero, List.set_cons_succ]
      refine wpAnyH_ready (rs := [11]) (by kernel_rfl) (by simp) (AllReadyH.cons (o := ?oq_4_11) ?op_4_11 (fun K hK => ?re_4_11) AllReadyH.nil)
      case op_4_11 => (simp only [List.getElem?_toArray, List.getElem?_cons_succ, List.getElem?_cons_zero]; rfl)
      go_simp
      go_at_call 17
      refine (qonly_any (by exact hA) hop ⟨by omega, by omega⟩).mono ?_
      rintro en z1 ⟨ov, rfl, hOn, b9⟩
      have hMq := hM.below b9
      clear hM
      have hM := hMq
      clear hMq
      have hAq := hA.below b9
      clear hA
      have hA := hAq
      clear hAq
      have hbq := below_step hb b9
      clear hb
      have hb := hbq
      clear hbq b9
      refine hK.out _ _ (by exact ⟨hM.cell h0, hM.cell h26, hM⟩) (fun hHeld => ?_)
      clear hK K
      try simp only [Act.put, List.setIfInBounds_toArray, List.set_cons_zero, List.set_cons_succ]
      refine wpAnyH_ready (rs := [12]) (by kernel_rfl) (by simp) (AllReadyH.cons (o := ?oq_4_12) ?op_4_12 (fun K hK => ?re_4_12) AllReadyH.nil)
      case op_4_12 => (simp only [List.getElem?_toArray, List.getElem?_cons_succ, List.getElem?_cons_zero]; rfl)
      go_simp
      go_at_call 11
      refine (qwsame_any (by exact hA) (by exact hOn) hop hop3).mono ?_
      rintro en z2 ⟨rfl, b9⟩
      rw [← HQ.out]
      have hMq := hM.below b9
      clear hM
      have hM := hMq
      clear hMq
      have hAq := hA.below b9
      clear hA
      have hA := hAq
      clear hAq
      have hbq := below_step hb b9
      clear hb
      have hb := hbq
      clear hbq b9
      refine hK.out _ _ (by exact ⟨hM.cell h0, hM.cell h26, hM⟩) (fun hHeld => ?_)
      clear hK K
      try simp only [Act.put, List.setIfInBounds_toArray, List.set_cons_zero, List.set_cons_succ]
      refine wpAnyH_take (i := 13) (oi := ?oq_4_13) (v := ?va_4_13) ?op_4_13 (by kernel_rfl) (by kernel_rfl) (by kernel_rfl) (fun _ _ _ h => h) ?yi_4_13 hHeld ?re_4_13
      case op_4_13 => (simp only [List.getElem?_toArray, List.getElem?_cons_succ, List.getElem?_cons_zero]; rfl)
      case yi_4_13 =>
        refine Or.inl ⟨by rfl, ?_⟩
        intro w hSw
        try dsimp only at hSw
        go_simp
        all_goals with_reducible rfl
      try simp only [Act.put, List.setIfInBounds_toArray, List.set_cons_zero, List.set_cons_succ]
      refine wpAnyH_take (i := 14) (oi := ?oq_4_14) (v := ?va_4_14) ?op_4_14 (by kernel_rfl) (by kernel_rfl) (by kernel_rfl) (fun _ _ _ h => h) ?yi_4_14 hHeld ?re_4_14
      case op_4_14 => (simp only [List.getElem?_toArray, List.getElem?_cons_succ, List.getElem?_cons_zero]; rfl)
      case yi_4_14 =>
        refine Or.inl ⟨by rfl, ?_⟩
        intro w hSw
        try dsimp only at hSw
        go_simp
        all_goals with_reducible rfl
      try simp only [Act.put, List.setIfInBounds_toArray, List.set_cons_zero, List.set_cons_succ]
      refine wpAnyH_take (i := 15) (oi := ?oq_4_15) (v := ?va_4_15) ?op_4_15 (by kernel_rfl) (by kernel_rfl) (by kernel_rfl) (fun _ _ _ h => h) ?yi_4_15 hHeld ?re_4_15
      case op_4_15 => (simp only [List.getElem?_toArray, List.getElem?_cons_succ, List.getElem?_cons_zero]; rfl)
      case yi_4_15 =>
        refine Or.inl ⟨by rfl, ?_⟩
        intro w hSw
        try dsimp only at hSw
        go_simp
        all_goals with_reducible rfl
      try simp only [Act.put, List.setIfInBounds_toArray, List.set_cons_zero, List.set_cons_succ]
      refine wpAnyH_take (i := 16) (oi := ?oq_4_16) (v := ?va_4_16) ?op_4_16 (by kernel_rfl) (by kernel_rfl) (by kernel_rfl) (fun _ _ _ h => h) ?yi_4_16 hHeld ?re_4_16
      case op_4_16 => (simp only [List.getElem?_toArray, List.getElem?_cons_succ, List.getElem?_cons_zero]; rfl)
      case yi_4_16 =>
        refine Or.inl ⟨by rfl, ?_⟩
        intro w hSw
        try dsimp only at hSw
        go_simp
        all_goals with_reducible rfl
      try simp only [Act.put, List.setIfInBounds_toArray, List.set_cons_zero, List.set_cons_succ]
      refine wpAnyH_take (i := 17) (oi := ?oq_4_17) (v := ?va_4_17) ?op_4_17 (by kernel_rfl) (by kernel_rfl) (by kernel_rfl) (fun _ _ _ h => h) ?yi_4_17 hHeld ?re_4_17
      case op_4_17 => (simp only [List.getElem?_toArray, List.getElem?_cons_succ, List.getElem?_cons_zero]; rfl)
      case yi_4_17 =>
        refine Or.inl ⟨by rfl, ?_⟩
        intro w hSw
        try dsimp only at hSw
        go_simp
        all_goals with_reducible rfl
      try simp only [Act.put, List.setIfInBounds_toArray, List.set_cons_zero, List.set_cons_succ]
      refine wpAnyH_take (i := 18) (oi := ?oq_4_18) (v := ?va_4_18) ?op_4_18 (by kernel_rfl) (by kernel_rfl) (by kernel_rfl) (fun _ _ _ h => h) ?yi_4_18 hHeld ?re_4_18
      case op_4_18 => (simp only [List.getElem?_toArray, List.getElem?_cons_succ, List.getElem?_cons_zero]; rfl)
      case yi_4_18 =>
        refine Or.inl ⟨by rfl, ?_⟩
        intro w hSw
        try dsimp only at hSw
        go_simp
        all_goals with_reducible rfl
      try simp only [Act.put, List.setIfInBounds_toArray, List.set_cons_zero, List.set_cons_succ]
      refine wpAnyH_take (i := 19) (oi := ?oq_4_19) (v := ?va_4_19) ?op_4_19 (by kernel_rfl) (by kernel_rfl) (by kernel_rfl) (fun _ _ _ h => h) ?yi_4_19 hHeld ?re_4_19
      case op_4_19 => (simp only [List.getElem?_toArray, List.getElem?_cons_succ, List.getElem?_cons_zero]; rfl)
      case yi_4_19 =>
        refine Or.inl ⟨by rfl, ?_⟩
        intro w hSw
        try dsimp only at hSw
        go_simp
        all_goals with_reducible rfl
      try simp only [Act.put, List.setIfInBounds_toArray, List.set_cons_zero, List.set_cons_succ]
      refine wpAnyH_take (i := 20) (oi := ?oq_4_20) (v := ?va_4_20) ?op_4_20 (by kernel_rfl) (by kernel_rfl) (by kernel_rfl) (fun _ _ _ h => h) ?yi_4_20 hHeld ?re_4_20
      case op_4_20 => (simp only [List.getElem?_toArray, List.getElem?_cons_succ, List.getElem?_cons_zero]; rfl)
      case yi_4_20 =>
        refine Or.inl ⟨by rfl, ?_⟩
        intro w hSw
        try dsimp only at hSw
        go_simp
        all_goals with_reducible rfl
      try simp only [Act.put, List.setIfInBounds_toArray, List.set_cons_zero, List.set_cons_succ]
      refine wpAnyH_done (by kernel_rfl) ?_ _
      refine NoPanic.normal ?_
      go_wp2_with fail
      go_ret
      exact ⟨by rw [← HB.out, HE.out]; rfl, hb⟩
    · have k3' : ¬ (8 : Int) < (M.fires.length : Int) := by omega
      have HMQ := Lib.hid (of_decide_eq_true HQ.out.symm)
      refine wp_region_noPanic ?_
      refine wp_region_held_drew (S := (fun w' => w'.cell? ⟨m, 0, none⟩ = some (.int .i64 M.kind) ∧ w'.cell? ⟨m, 26, none⟩ = some (.slice a2 M.fires.length cap2) ∧ BlkAt w' m 34 cs)) (by kernel_rfl) (by exact ⟨hM.cell h0, hM.cell h26, hM⟩) (fun hHeld => ?_)
      refine wpAnyH_take (i := 0) (oi := ?oq_5_0) (v := ?va_5_0) ?op_5_0 (by kernel_rfl) (by kernel_rfl) (by kernel_rfl) (fun _ _ _ h => h) ?yi_5_0 hHeld ?re_5_0
      case op_5_0 => (simp only [List.getElem?_toArray, List.getElem?_cons_zero]; rfl)
      case yi_5_0 =>
        refine Or.inl ⟨by rfl, ?_⟩
        intro w hSw
        try dsimp only at hSw
        go_simp
        all_goals with_reducible rfl
      try simp only [Act.put, List.setIfInBounds_toArray, List.set_cons_zero, List.set_cons_succ]
      refine wpAnyH_take (i := 1) (oi := ?oq_5_1) (v := ?va_5_1) ?op_5_1 (by kernel_rfl) (by kernel_rfl) (by kernel_rfl) (fun _ _ _ h => h) ?yi_5_1 hHeld ?re_5_1
      case op_5_1 => (simp only [List.getElem?_toArray, List.getElem?_cons_succ, List.getElem?_cons_zero]; rfl)
      case yi_5_1 =>
        refine Or.inl ⟨by rfl, ?_⟩
        intro w hSw
        try dsimp only at hSw
        go_simp
        all_goals with_reducible rfl
      try simp only [Act.put, List.setIfInBounds_toArray, List.set_cons_zero, List.set_cons_succ]
      refine wpAnyH_take (i := 2) (oi := ?oq_5_2) (v := ?va_5_2) ?op_5_2 (by kernel_rfl) (by kernel_rfl) (by kernel_rfl) (fun _ _ _ h => h) ?yi_5_2 hHeld ?re_5_2
      case op_5_2 => (simp only [List.getElem?_toArray, List.getElem?_cons_succ, List.getElem?_cons_zero]; rfl)
      case yi_5_2 =>
        refine Or.inl ⟨by rfl, ?_⟩
        intro w hSw
        try dsimp only at hSw
        go_simp
        all_goals with_reducible rfl
      try simp only [Act.put, List.setIfInBounds_toArray, List.set_cons_zero, List.set_cons_succ]
      refine wpAnyH_take (i := 3) (oi := ?oq_5_3) (v := ?va_5_3) ?op_5_3 (by kernel_rfl) (by kernel_rfl) (by kernel_rfl) (fun _ _ _ h => h) ?yi_5_3 hHeld ?re_5_3
      case op_5_3 => (simp only [List.getElem?_toArray, List.getElem?_cons_succ, List.getElem?_cons_zero]; rfl)
      case yi_5_3 =>
        refine Or.inl ⟨by rfl, ?_⟩
        intro w hSw
        try dsimp only at hSw
        go_simp
        all_goals with_reducible rfl
      try simp only [Act.put, List.setIfInBounds_toArray, List.set_cons_zero, List.set_cons_succ]
      refine wpAnyH_take (i := 4) (oi := ?oq_5_4) (v := ?va_5_4) ?op_5_4 (by kernel_rfl) (by kernel_rfl) (by kernel_rfl) (fun _ _ _ h => h) ?yi_5_4 hHeld ?re_5_4
      case op_5_4 => (simp only [List.getElem?_toArray, List.getElem?_cons_succ, List.getElem?_cons_zero]; rfl)
      case yi_5_4 =>
        refine Or.inl ⟨by rfl, ?_⟩
        intro w hSw
        try dsimp only at hSw
        go_simp
        all_goals with_reducible rfl
      try simp only [Act.put, List.setIfInBounds_toArray, List.set_cons_zero, List.set_cons_succ]
      refine wpAnyH_take (i := 5) (oi := ?oq_5_5) (v := ?va_5_5) ?op_5_5 (by kernel_rfl) (by kernel_rfl) (by kernel_rfl) (fun _ _ _ h => h) ?yi_5_5 hHeld ?re_5_5
      case op_5_5 => (simp only [List.getElem?_toArray, List.getElem?_cons_succ, List.getElem?_cons_zero]; rfl)
      case yi_5_5 =>
        refine Or.inl ⟨by rfl, ?_⟩
        intro w hSw
        try dsimp only at hSw
        go_simp
        all_goals with_reducible rfl
      try simp only [Act.put, List.setIfInBounds_toArray, List.set_cons_zero, List.set_cons_succ]
      refine wpAnyH_take (i := 6) (oi := ?oq_5_6) (v := ?va_5_6) ?op_5_6 (by kernel_rfl) (by kernel_rfl) (by kernel_rfl) (fun _ _ _ h => h) ?yi_5_6 hHeld ?re_5_6
      case op_5_6 => (simp only [List.getElem?_toArray, List.getElem?_cons_succ, List.getElem?_cons_zero]; rfl)
      case yi_5_6 =>
        refine Or.inl ⟨by rfl, ?_⟩
        intro w hSw
        try dsimp only at hSw
        go_simp
        all_goals with_reducible rfl
      try simp only [Act.put, List.setIfInBounds_toArray, List.set_cons_zero, List.set_cons_succ]
      refine wpAnyH_take (i := 7) (oi := ?oq_5_7) (v := ?va_5_7) ?op_5_7 (by kernel_rfl) (by kernel_rfl) (by kernel_rfl) (fun _ _ _ h => h) ?yi_5_7 hHeld ?re_5_7
      case op_5_7 => (simp only [List.getElem?_toArray, List.getElem?_cons_succ, List.getElem?_cons_zero]; rfl)
      case yi_5_7 =>
        refine Or.inl ⟨by rfl, ?_⟩
        intro w hSw
        try dsimp only at hSw
        go_simp
        all_goals with_reducible rfl
      try simp only [Act.put, List.setIfInBounds_toArray, List.set_cons_zero, List.set_cons_succ]
      refine wpAnyH_take (i := 8) (oi := ?oq_5_8) (v := ?va_5_8) ?op_5_8 (by kernel_rfl) (by kernel_rfl) (by kernel_rfl) (fun _ _ _ h => h) ?yi_5_8 hHeld ?re_5_8
      case op_5_8 => (simp only [List.getElem?_toArray, List.getElem?_cons_succ, List.getElem?_cons_zero]; rfl)
      case yi_5_8 =>
        refine Or.inl ⟨by rfl, ?_⟩
        intro w hSw
        try dsimp only at hSw
        go_simp
        all_goals with_reducible rfl
      try simp only [Act.put, List.setIfInBounds_toArray, List.set_cons_zero, List.set_cons_succ]
      refine wpAnyH_take (i := 9) (oi := ?oq_5_9) (v := ?va_5_9) ?op_5_9 (by kernel_rfl) (by kernel_rfl) (by kernel_rfl) (fun _ _ _ h => h) ?yi_5_9 hHeld ?re_5_9
      case op_5_9 => (simp only [List.getElem?_toArray, List.getElem?_cons_succ, List.getElem?_cons_zero]; rfl)
      case yi_5_9 => exact (by
        refine yieldsIf_load_mid ?_ 34 (.tmp 1) ?_ m 0 ?_ cs _ ?_ Tryz.underlying34 ?_ (by rw [hlen]; exact msg_info)
        · rfl
        · rfl
        · rfl
        · intro w h
          have h : _ ∧ _ ∧ _ := h
          exact BlkAt.range h.2.2
        · rfl)
      try simp only [Act.put, List.setIfInBounds_toArray, List.set_cons_zero, List.set_cons_succ]
      refine wpAnyH_take (i := 10) (oi := ?oq_5_10) (v := ?va_5_10) ?op_5_10 (by kernel_rfl) (by kernel_rfl) (by kernel_rfl) (fun _ _ _ h => h) ?yi_5_10 hHeld ?re_5_10
      case op_5_10 => (simp only [List.getElem?_toArray, List.getElem?_cons_succ, List.getElem?_cons_zero]; rfl)
      case yi_5_10 => exact (by
        refine yieldsIf_load_mid ?_ 34 (.tmp 1) ?_ m 0 ?_ cs _ ?_ Tryz.underlying34 ?_ (by rw [hlen]; exact msg_info)
        · rfl
        · rfl
        · rfl
        · intro w h
          have h : _ ∧ _ ∧ _ := h
          exact BlkAt.range h.2.2
        · rfl)
      try simp only [Act.put, List.setIfInBounds_toArray, List.set_cons_zero, List.set_cons_succ]
      refine wpAnyH_ready (rs := [11]) (by kernel_rfl) (by simp) (AllReadyH.cons (o := ?oq_5_11) ?op_5_11 (fun K hK => ?re_5_11) AllReadyH.nil)
      case op_5_11 => (simp only [List.getElem?_toArray, List.getElem?_cons_succ, List.getElem?_cons_zero]; rfl)
      go_simp
      go_at_call 17
      refine (qonly_any (by exact hA) hop ⟨by omega, by omega⟩).mono ?_
      rintro en z1 ⟨ov, rfl, hOn, b9⟩
      have hMq := hM.below b9
      clear hM
      have hM := hMq
      clear hMq
      have hAq := hA.below b9
      clear hA
      have hA := hAq
      clear hAq
      have hbq := below_step hb b9
      clear hb
      have hb := hbq
      clear hbq b9
      refine hK.out _ _ (by exact ⟨hM.cell h0, hM.cell h26, hM⟩) (fun hHeld => ?_)
      clear hK K
      try simp only [Act.put, List.setIfInBounds_toArray, List.set_cons_zero, List.set_cons_succ]
      refine wpAnyH_ready (rs := [12]) (by kernel_rfl) (by simp) (AllReadyH.cons (o := ?oq_5_12) ?op_5_12 (fun K hK => ?re_5_12) AllReadyH.nil)
      case op_5_12 => (simp only [List.getElem?_toArray, List.getElem?_cons_succ, List.getElem?_cons_zero]; rfl)
      go_simp
      go_at_call 11
      refine (qwsame_any (by exact hA) (by exact hOn) hop hop3).mono ?_
      rintro en z2 ⟨rfl, b9⟩
      rw [← HQ.out]
      have hMq := hM.below b9
      clear hM
      have hM := hMq
      clear hMq
      have hAq := hA.below b9
      clear hA
      have hA := hAq
      clear hAq
      have hbq := below_step hb b9
      clear hb
      have hb := hbq
      clear hbq b9
      refine hK.out _ _ (by exact ⟨hM.cell h0, hM.cell h26, hM⟩) (fun hHeld => ?_)
      clear hK K
      try simp only [Act.put, List.setIfInBounds_toArray, List.set_cons_zero, List.set_cons_succ]
      refine wpAnyH_take (i := 13) (oi := ?oq_5_13) (v := ?va_5_13) ?op_5_13 (by kernel_rfl) (by kernel_rfl) (by kernel_rfl) (fun _ _ _ h => h) ?yi_5_13 hHeld ?re_5_13
      case op_5_13 => (simp only [List.getElem?_toArray, List.getElem?_cons_succ, List.getElem?_cons_zero]; rfl)
      case yi_5_13 =>
        refine Or.inl ⟨by rfl, ?_⟩
        intro w hSw
        try dsimp only at hSw
        go_simp
        all_goals with_reducible rfl
      try simp only [Act.put, List.setIfInBounds_toArray, List.set_cons_zero, List.set_cons_succ]
      refine wpAnyH_take (i := 14) (oi := ?oq_5_14) (v := ?va_5_14) ?op_5_14 (by kernel_rfl) (by kernel_rfl) (by kernel_rfl) (fun _ _ _ h => h) ?yi_5_14 hHeld ?re_5_14
      case op_5_14 => (simp only [List.getElem?_toArray, List.getElem?_cons_succ, List.getElem?_cons_zero]; rfl)
      case yi_5_14 =>
        refine Or.inl ⟨by rfl, ?_⟩
        intro w hSw
        try dsimp only at hSw
        go_simp
        all_goals with_reducible rfl
      try simp only [Act.put, List.setIfInBounds_toArray, List.set_cons_zero, List.set_cons_succ]
      refine wpAnyH_take (i := 15) (oi := ?oq_5_15) (v := ?va_5_15) ?op_5_15 (by kernel_rfl) (by kernel_rfl) (by kernel_rfl) (fun _ _ _ h => h) ?yi_5_15 hHeld ?re_5_15
      case op_5_15 => (simp only [List.getElem?_toArray, List.getElem?_cons_succ, List.getElem?_cons_zero]; rfl)
      case yi_5_15 =>
        refine Or.inl ⟨by rfl, ?_⟩
        intro w hSw
        try dsimp only at hSw
        go_simp
        all_goals with_reducible rfl
      try simp only [Act.put, List.setIfInBounds_toArray, List.set_cons_zero, List.set_cons_succ]
      refine wpAnyH_take (i := 16) (oi := ?oq_5_16) (v := ?va_5_16) ?op_5_16 (by kernel_rfl) (by kernel_rfl) (by kernel_rfl) (fun _ _ _ h => h) ?yi_5_16 hHeld ?re_5_16
      case op_5_16 => (simp only [List.getElem?_toArray, List.getElem?_cons_succ, List.getElem?_cons_zero]; rfl)
      case yi_5_16 =>
        refine Or.inl ⟨by rfl, ?_⟩
        intro w hSw
        try dsimp only at hSw
        go_simp
        all_goals with_reducible rfl
      try simp only [Act.put, List.setIfInBounds_toArray, List.set_cons_zero, List.set_cons_succ]
      refine wpAnyH_take (i := 17) (oi := ?oq_5_17) (v := ?va_5_17) ?op_5_17 (by kernel_rfl) (by kernel_rfl) (by kernel_rfl) (fun _ _ _ h => h) ?yi_5_17 hHeld ?re_5_17
      case op_5_17 => (simp only [List.getElem?_toArray, List.getElem?_cons_succ, List.getElem?_cons_zero]; rfl)
      case yi_5_17 =>
        refine Or.inl ⟨by rfl, ?_⟩
        intro w hSw
        try dsimp only at hSw
        go_simp
        all_goals with_reducible rfl
      try simp only [Act.put, List.setIfInBounds_toArray, List.set_cons_zero, List.set_cons_succ]
      refine wpAnyH_take (i := 18) (oi := ?oq_5_18) (v := ?va_5_18) ?op_5_18 (by kernel_rfl) (by kernel_rfl) (by kernel_rfl) (fun _ _ _ h => h) ?yi_5_18 hHeld ?re_5_18
      case op_5_18 => (simp only [List.getElem?_toArray, List.getElem?_cons_succ, List.getElem?_cons_zero]; rfl)
      case yi_5_18 =>
        refine Or.inl ⟨by rfl, ?_⟩
        intro w hSw
        try dsimp only at hSw
        go_simp
        all_goals with_reducible rfl
      try simp only [Act.put, List.setIfInBounds_toArray, List.set_cons_zero, List.set_cons_succ]
      refine wpAnyH_take (i := 19) (oi := ?oq_5_19) (v := ?va_5_19) ?op_5_19 (by kernel_rfl) (by kernel_rfl) (by kernel_rfl) (fun _ _ _ h => h) ?yi_5_19 hHeld ?re_5_19
      case op_5_19 => (simp only [List.getElem?_toArray, List.getElem?_cons_succ, List.getElem?_cons_zero]; rfl)
      case yi_5_19 =>
        refine Or.inl ⟨by rfl, ?_⟩
        intro w hSw
        try dsimp only at hSw
        go_simp
        all_goals with_reducible rfl
      try simp only [Act.put, List.setIfInBounds_toArray, List.set_cons_zero, List.set_cons_succ]
      refine wpAnyH_take (i := 20) (oi := ?oq_5_20) (v := ?va_5_20) ?op_5_20 (by kernel_rfl) (by kernel_rfl) (by kernel_rfl) (fun _ _ _ h => h) ?yi_5_20 hHeld ?re_5_20
      case op_5_20 => (simp only [List.getElem?_toArray, List.getElem?_cons_succ, List.getElem?_cons_zero]; rfl)
      case yi_5_20 =>
        refine Or.inl ⟨by rfl, ?_⟩
        intro w hSw
        try dsimp only at hSw
        go_simp
        all_goals with_reducible rfl
      try simp only [Act.put, List.setIfInBounds_toArray, List.set_cons_zero, List.set_cons_succ]
      refine wpAnyH_done (by kernel_rfl) ?_ _
      refine NoPanic.normal ?_
      by_cases k5 : M.kind = 5
      · have b5 : (M.kind == 5) = true := by simp; omega
        have b7 : (M.kind == 7) = false := by simp; omega
        have b2 : (M.kind != 2) = true := by simp; omega
        have c0 := hM.cell h0
        have m11 := hM.cell HOP.out.1
        have m12 := hM.cell HOP.out.2.1
        have m13 := hM.cell HOP.out.2.2.1
        have m14 := hM.cell HOP.out.2.2.2.1
        have m15 := hM.cell HOP.out.2.2.2.2.1
        have m16 := hM.cell HOP.out.2.2.2.2.2.1
        have m17 := hM.cell HOP.out.2.2.2.2.2.2.1
        have m18 := hM.cell HOP.out.2.2.2.2.2.2.2.1
        have m19 := hM.cell HOP.out.2.2.2.2.2.2.2.2.1
        have m20 := hM.cell HOP.out.2.2.2.2.2.2.2.2.2.1
        obtain ⟨r, hr⟩ : ∃ r, r = mayOp ⟨ok, [x1, x2, x3, x4, x5, x6, x7, x8], oc⟩ := ⟨_, rfl⟩
        have HRR := Lib.hid hr
        clear hr
        go_wp2_with fail
        refine (qmay_any (o := ⟨ok, [x1, x2, x3, x4, x5, x6, x7, x8], oc⟩) hoo _).mono ?_
        rintro en w8 ⟨rfl, b8⟩
        rw [← HRR.out]
        have hM8 := hM.below b8
        have hb8 := below_step hb b8
        clear c0 m11 m12 m13 m14 m15 m16 m17 m18 m19 m20 hM hb b8
        have c0 := hM8.cell h0
        cases r with
        | false =>
          have HE := Lib.hid (show mayW M = false by
            rw [Bool.eq_false_iff]
            intro h
            have h2 := (mayW_iff.1 h).2.2.2.2.1 (by omega)
            rw [hO, ← HRR.out] at h2
            exact Bool.noConfusion h2)
          go_wp2_with fail
          go_ret
          exact ⟨by rw [← HB.out, HE.out]; rfl, hb8⟩
        | true =>
          have HE := Lib.hid (show mayW M = true from mayW_iff.2 ⟨by omega, by omega, HMQ.out, by omega, fun _ => by rw [hO, ← HRR.out], fun h => by omega⟩)
          go_wp2_with fail
          go_ret
          exact ⟨by rw [← HB.out, HE.out]; rfl, hb8⟩
      by_cases k7 : M.kind = 7
      · have b5 : (M.kind == 5) = false := by simp; omega
        have b7 : (M.kind == 7) = true := by simp; omega
        have b2 : (M.kind != 2) = true := by simp; omega
        have c0 := hM.cell h0
        have m11 := hM.cell HOP.out.1
        have m12 := hM.cell HOP.out.2.1
        have m13 := hM.cell HOP.out.2.2.1
        have m14 := hM.cell HOP.out.2.2.2.1
        have m15 := hM.cell HOP.out.2.2.2.2.1
        have m16 := hM.cell HOP.out.2.2.2.2.2.1
        have m17 := hM.cell HOP.out.2.2.2.2.2.2.1
        have m18 := hM.cell HOP.out.2.2.2.2.2.2.2.1
        have m19 := hM.cell HOP.out.2.2.2.2.2.2.2.2.1
        have m20 := hM.cell HOP.out.2.2.2.2.2.2.2.2.2.1
        obtain ⟨r, hr⟩ : ∃ r, r = mayOp ⟨ok, [x1, x2, x3, x4, x5, x6, x7, x8], oc⟩ := ⟨_, rfl⟩
        have HRR := Lib.hid hr
        clear hr
        go_wp2_with fail
        refine (qmay_any (o := ⟨ok, [x1, x2, x3, x4, x5, x6, x7, x8], oc⟩) hoo _).mono ?_
        rintro en w8 ⟨rfl, b8⟩
        rw [← HRR.out]
        have hM8 := hM.below b8
        have hb8 := below_step hb b8
        clear c0 m11 m12 m13 m14 m15 m16 m17 m18 m19 m20 hM hb b8
        have c0 := hM8.cell h0
        cases r with
        | false =>
          have HE := Lib.hid (show mayW M = false by
            rw [Bool.eq_false_iff]
            intro h
            have h2 := (mayW_iff.1 h).2.2.2.2.1 (by omega)
            rw [hO, ← HRR.out] at h2
            exact Bool.noConfusion h2)
          go_wp2_with fail
          go_ret
          exact ⟨by rw [← HB.out, HE.out]; rfl, hb8⟩
        | true =>
          have HE := Lib.hid (show mayW M = true from mayW_iff.2 ⟨by omega, by omega, HMQ.out, by omega, fun _ => by rw [hO, ← HRR.out], fun h => by omega⟩)
          go_wp2_with fail
          go_ret
          exact ⟨by rw [← HB.out, HE.out]; rfl, hb8⟩
      have b5 : (M.kind == 5) = false := by simpa using k5
      have b7 : (M.kind == 7) = false := by simpa using k7
      by_cases k22 : M.kind = 2
      · have b2 : (M.kind != 2) = false := by simpa using k22
        have c0 := hM.cell h0
        have m24 := hM.cell HOP.out.2.2.2.2.2.2.2.2.2.2.1
        have m25 := hM.cell HOP.out.2.2.2.2.2.2.2.2.2.2.2
        obtain ⟨r, hr⟩ : ∃ r, r = rightC ⟨M.cf.epoch, M.cf.chain⟩ := ⟨_, rfl⟩
        have HRR := Lib.hid hr
        clear hr
        go_wp2_with fail
        refine (qcright_any (by exact HC.out.below hb) M.cf.epoch).mono ?_
        rintro en w8 ⟨rfl, b8⟩
        rw [← HRR.out]
        have hb8 := below_step hb b8
        have HE := Lib.hid (show mayW M = r by
          rw [HRR.out, Bool.eq_iff_iff]
          exact ⟨fun h => (mayW_iff.1 h).2.2.2.2.2 k22, fun h => mayW_iff.2 ⟨by omega, by omega, HMQ.out, by omega, fun h => by omega, fun _ => h⟩⟩)
        clear c0 m24 m25 hM hb b8
        go_wp2_with fail
        go_ret
        exact ⟨by rw [← HB.out, HE.out]; rfl, hb8⟩
      · have b2 : (M.kind != 2) = true := by simpa using k22
        have c0 := hM.cell h0
        have HE := Lib.hid (show mayW M = true from mayW_iff.2 ⟨by omega, by omega, HMQ.out, by omega, fun h => by omega, fun h => absurd h k22⟩)
        go_wp2_with fail
        go_ret
        exact ⟨by rw [← HB.out, HE.out]; rfl, hb⟩
end Go.Proofs.YtagmlgeoefemfaaGreat
