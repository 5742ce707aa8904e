/- The document's May of messages. The document's Print of messages: the bytes of one that may be. -/
import Derived.Test.YtnaabaahfjklhaaGreatWireRefOnly
import Derived.Test.YtnaabaahfjklhaaGreatWireRefSame
import Derived.Test.YtnaabaahfjklhaaGreatOpRefMay
import Derived.Test.YtnaabaahfjklhaaGreatCfgRight
import Derived.Test.YtnaabaahfjklhaaGreatWireRefRow
import Derived.Test.YtnaabaahfjklhaaGreatOpRefPut
import Derived.Test.YtnaabaahfjklhaaGreatCfgQRead
import Derived.Deep.DeepCutAuto
namespace Go.Proofs.YtnaabaahfjklhaaGreat
open Go.RowKit Go.ChangeShapes Go.WideShapes Go.Joins Go.Deep Fld
set_option linter.unusedVariables false

theorem msg_cellsO {M : MsgV} {ok a1 a2 a3 a4 a5 a6 a7 a8 : Int} {oc : List UInt8} (h : M.op = ⟨ok, [a1, a2, a3, a4, a5, a6, a7, a8], oc⟩) (v1 v2 : Value) :
    (msgCells M v1 v2)[11]? = some (.int .i64 ok) ∧ (msgCells M v1 v2)[12]? = some (.int .i64 a1) ∧ (msgCells M v1 v2)[13]? = some (.int .i64 a2) ∧ (msgCells M v1 v2)[14]? = some (.int .i64 a3) ∧ (msgCells M v1 v2)[15]? = some (.int .i64 a4) ∧
    (msgCells M v1 v2)[16]? = some (.int .i64 a5) ∧ (msgCells M v1 v2)[17]? = some (.int .i64 a6) ∧ (msgCells M v1 v2)[18]? = some (.int .i64 a7) ∧ (msgCells M v1 v2)[19]? = some (.int .i64 a8) ∧ (msgCells M v1 v2)[20]? = some (.string ⟨oc.toArray⟩) ∧
    (msgCells M v1 v2)[24]? = some (.int .i64 M.cf.epoch) ∧ (msgCells M v1 v2)[25]? = some v1 := by
  obtain ⟨k, dst, fn, fl, ep, seq, req, cl, id, un, flag, op, re, rg, rd, cf, fires, life⟩ := M
  simp only at h
  subst h
  exact ⟨rfl, rfl, rfl, rfl, rfl, rfl, rfl, rfl, rfl, rfl, rfl, rfl⟩

set_option maxRecDepth 100000 in
set_option maxHeartbeats 4000000 in

theorem qwmay_any {w : World} {M : MsgV} {v : Value} (hv : M.At w v) (hok : MOk M) {b : Bool} (hbv : mayW M = b) :
    Calls Tryz.prog 34 #[v] w fun en w' => en = .returned (.bool b) ∧ Below w.heap.size w w' := by
  have hop := hok.op.1
  have hoo := hok.op
  have hA0 := hv
  obtain ⟨v1, v2, rfl, ⟨a1, cap1, rfl, hs⟩, ⟨a2, cap2, rfl, hfl, hfs⟩⟩ := hv
  have hlen : (msgCells M (.slice a1 M.cf.chain.length cap1) (.slice a2 M.fires.length cap2)).length = 28 := msgCells_len hop _ _
  have h0 := msg_c0 M (.slice a1 M.cf.chain.length cap1) (.slice a2 M.fires.length cap2)
  have h26 := msg_c26 hop (.slice a1 M.cf.chain.length cap1) (.slice a2 M.fires.length cap2)
  obtain ⟨ok, ov, oc, hO⟩ : ∃ ok ov oc, M.op = ⟨ok, ov, oc⟩ := ⟨_, _, _, rfl⟩
  have hop8 := hop
  rw [hO] at hop8 hoo
  obtain ⟨x1, x2, x3, x4, x5, x6, x7, x8, rfl⟩ := list8 hop8
  have HOP := Lib.hid (msg_cellsO hO (.slice a1 M.cf.chain.length cap1) (.slice a2 M.fires.length cap2))
  have HC := Lib.hid (show ChainAt w (.slice a1 M.cf.chain.length cap1) M.cf.chain from ⟨a1, cap1, rfl, hs⟩)
  generalize msgCells M (.slice a1 M.cf.chain.length cap1) (.slice a2 M.fires.length cap2) = cs at *
  clear hs hfs hop8
  unfold maxLen at hfl
  have hM := BlkAt.new w 40 cs
  have hb := (Below.refl w.heap.size w).alloc (Nat.le_refl _) (.cells cs.toArray 40)
  have hA := hA0.below hb
  have HB := Lib.hid hbv
  clear hbv hA0
  have hop3 : (onlyM M).op.v.length = 8 := by
    rw [onlyM_put]
    have : ∀ R A, A.op.v.length = 8 → (putF R M A).op.v.length = 8 := by
      intro R
      induction R with
      | nil => intro A h; exact h
      | cons F R ih => intro A h; exact ih _ (setF_op hop h)
    exact this _ _ rfl
  obtain ⟨q, hq⟩ : ∃ q, q = decide (M = onlyM M) := ⟨_, rfl⟩
  have HQ := Lib.hid hq
  clear hq
  go_enter Tryz.func34, Tryz.ntmps34
  go_upto_region 1 with (fail)
  change Code.wp _ _ _ _ (w.alloc (.cells cs.toArray 40))
  change BlkAt (w.alloc (.cells cs.toArray 40)) _ _ _ at hM
  generalize w.alloc (.cells cs.toArray 40) = W at *
  obtain ⟨m, hm⟩ : ∃ m, m = w.heap.size := ⟨_, rfl⟩
  rw [← hm] at hM ⊢
  clear hm
  have bd : Below W.heap.size W W.drew := below_drewN (Below.refl _ _) 1
  have hMd := hM.below bd
  have hAd := hA.below bd
  have hbd : Below w.heap.size w W.drew := below_drewN hb 1
  clear hM hA hb bd
  have hM := hMd
  have hA := hAd
  have hb := hbd
  clear hMd hAd hbd
  by_cases k1 : M.kind < 1
  · have HE := Lib.hid (show mayW M = false by rw [Bool.eq_false_iff]; intro h; have := (mayW_iff.1 h).1; omega)
    refine wp_region_noPanic ?_
    refine wp_region_held_drew (S := (fun w' => w'.cell? ⟨m, 0, none⟩ = some (.int .i64 M.kind) ∧ w'.cell? ⟨m, 26, none⟩ = some (.slice a2 M.fires.length cap2) ∧ BlkAt w' m 40 cs)) (by kernel_rfl) (by exact ⟨hM.cell h0, hM.cell h26, hM⟩) (fun hHeld => ?_)
    refine wpAnyH_take (i := 0) (oi := ?oq_1_0) (v := ?va_1_0) ?op_1_0 (by kernel_rfl) (by kernel_rfl) (by kernel_rfl) (fun _ _ _ h => h) ?yi_1_0 hHeld ?re_1_0
    case op_1_0 => (simp only [List.getElem?_toArray, List.getElem?_cons_zero]; rfl)
    case yi_1_0 =>
      refine Or.inl ⟨by rfl, ?_⟩
      intro w hSw
      try dsimp only at hSw
      go_simp
      all_goals with_reducible rfl
    try simp only [Act.put, List.setIfInBounds_toArray, List.set_cons_zero, List.set_cons_succ]
    refine wpAnyH_take (i := 1) (oi := ?oq_1_1) (v := ?va_1_1) ?op_1_1 (by kernel_rfl) (by kernel_rfl) (by kernel_rfl) (fun _ _ _ h => h) ?yi_1_1 hHeld ?re_1_1
    case op_1_1 => (simp only [List.getElem?_toArray, List.getElem?_cons_succ, List.getElem?_cons_zero]; rfl)
    case yi_1_1 =>
      refine Or.inl ⟨by rfl, ?_⟩
      intro w hSw
      try dsimp only at hSw
      go_simp
      all_goals with_reducible rfl
    try simp only [Act.put, List.setIfInBounds_toArray, List.set_cons_zero, List.set_cons_succ]
    refine wpAnyH_take (i := 2) (oi := ?oq_1_2) (v := ?va_1_2) ?op_1_2 (by kernel_rfl) (by kernel_rfl) (by kernel_rfl) (fun _ _ _ h => h) ?yi_1_2 hHeld ?re_1_2
    case op_1_2 => (simp only [List.getElem?_toArray, List.getElem?_cons_succ, List.getElem?_cons_zero]; rfl)
    case yi_1_2 =>
      refine Or.inl ⟨by rfl, ?_⟩
      intro w hSw
      try dsimp only at hSw
      go_simp
      all_goals with_reducible rfl
    try simp only [Act.put, List.setIfInBounds_toArray, List.set_cons_zero, List.set_cons_succ]
    refine wpAnyH_take (i := 3) (oi := ?oq_1_3) (v := ?va_1_3) ?op_1_3 (by kernel_rfl) (by kernel_rfl) (by kernel_rfl) (fun _ _ _ h => h) ?yi_1_3 hHeld ?re_1_3
    case op_1_3 => (simp only [List.getElem?_toArray, List.getElem?_cons_succ, List.getElem?_cons_zero]; rfl)
    case yi_1_3 =>
      refine Or.inl ⟨by rfl, ?_⟩
      intro w hSw
      try dsimp only at hSw
      go_simp
      all_goals with_reducible rfl
    try simp only [Act.put, List.setIfInBounds_toArray, List.set_cons_zero, List.set_cons_succ]
    refine wpAnyH_take (i := 4) (oi := ?oq_1_4) (v := undef) ?op_1_4 (by kernel_rfl) (by kernel_rfl) (by kernel_rfl) (fun _ _ _ h => h) ?yi_1_4 hHeld ?re_1_4
    case op_1_4 => (simp only [List.getElem?_toArray, List.getElem?_cons_succ, List.getElem?_cons_zero]; rfl)
    case yi_1_4 => exact Or.inr ⟨by rfl, rfl⟩
    try simp only [Act.put, List.setIfInBounds_toArray, List.set_cons_zero, List.set_cons_succ]
    refine wpAnyH_take (i := 5) (oi := ?oq_1_5) (v := undef) ?op_1_5 (by kernel_rfl) (by kernel_rfl) (by kernel_rfl) (fun _ _ _ h => h) ?yi_1_5 hHeld ?re_1_5
    case op_1_5 => (simp only [List.getElem?_toArray, List.getElem?_cons_succ, List.getElem?_cons_zero]; rfl)
    case yi_1_5 => exact Or.inr ⟨by rfl, rfl⟩
    try simp only [Act.put, List.setIfInBounds_toArray, List.set_cons_zero, List.set_cons_succ]
    refine wpAnyH_take (i := 6) (oi := ?oq_1_6) (v := undef) ?op_1_6 (by kernel_rfl) (by kernel_rfl) (by kernel_rfl) (fun _ _ _ h => h) ?yi_1_6 hHeld ?re_1_6
    case op_1_6 => (simp only [List.getElem?_toArray, List.getElem?_cons_succ, List.getElem?_cons_zero]; rfl)
    case yi_1_6 => exact Or.inr ⟨by rfl, rfl⟩
    try simp only [Act.put, List.setIfInBounds_toArray, List.set_cons_zero, List.set_cons_succ]
    refine wpAnyH_take (i := 7) (oi := ?oq_1_7) (v := ?va_1_7) ?op_1_7 (by kernel_rfl) (by kernel_rfl) (by kernel_rfl) (fun _ _ _ h => h) ?yi_1_7 hHeld ?re_1_7
    case op_1_7 => (simp only [List.getElem?_toArray, List.getElem?_cons_succ, List.getElem?_cons_zero]; rfl)
    case yi_1_7 =>
      refine Or.inl ⟨by rfl, ?_⟩
      intro w hSw
      try dsimp only at hSw
      go_simp
      all_goals with_reducible rfl
    try simp only [Act.put, List.setIfInBounds_toArray, List.set_cons_zero, List.set_cons_succ]
    refine wpAnyH_take (i := 8) (oi := ?oq_1_8) (v := ?va_1_8) ?op_1_8 (by kernel_rfl) (by kernel_rfl) (by kernel_rfl) (fun _ _ _ h => h) ?yi_1_8 hHeld ?re_1_8
    case op_1_8 => (simp only [List.getElem?_toArray, List.getElem?_cons_succ, List.getElem?_cons_zero]; rfl)
    case yi_1_8 =>
      refine Or.inl ⟨by rfl, ?_⟩
      intro w hSw
      try dsimp only at hSw
      go_simp
      all_goals with_reducible rfl
    try simp only [Act.put, List.setIfInBounds_toArray, List.set_cons_zero, List.set_cons_succ]
    refine wpAnyH_take (i := 9) (oi := ?oq_1_9) (v := undef) ?op_1_9 (by kernel_rfl) (by kernel_rfl) (by kernel_rfl) (fun _ _ _ h => h) ?yi_1_9 hHeld ?re_1_9
    case op_1_9 => (simp only [List.getElem?_toArray, List.getElem?_cons_succ, List.getElem?_cons_zero]; rfl)
    case yi_1_9 => exact Or.inr ⟨by rfl, rfl⟩
    try simp only [Act.put, List.setIfInBounds_toArray, List.set_cons_zero, List.set_cons_succ]
    refine wpAnyH_take (i := 10) (oi := ?oq_1_10) (v := undef) ?op_1_10 (by kernel_rfl) (by kernel_rfl) (by kernel_rfl) (fun _ _ _ h => h) ?yi_1_10 hHeld ?re_1_10
    case op_1_10 => (simp only [List.getElem?_toArray, List.getElem?_cons_succ, List.getElem?_cons_zero]; rfl)
    case yi_1_10 => exact Or.inr ⟨by rfl, rfl⟩
    try simp only [Act.put, List.setIfInBounds_toArray, List.set_cons_zero, List.set_cons_succ]
    refine wpAnyH_take (i := 11) (oi := ?oq_1_11) (v := undef) ?op_1_11 (by kernel_rfl) (by kernel_rfl) (by kernel_rfl) (fun _ _ _ h => h) ?yi_1_11 hHeld ?re_1_11
    case op_1_11 => (simp only [List.getElem?_toArray, List.getElem?_cons_succ, List.getElem?_cons_zero]; rfl)
    case yi_1_11 => exact Or.inr ⟨by rfl, rfl⟩
    try simp only [Act.put, List.setIfInBounds_toArray, List.set_cons_zero, List.set_cons_succ]
    refine wpAnyH_take (i := 12) (oi := ?oq_1_12) (v := undef) ?op_1_12 (by kernel_rfl) (by kernel_rfl) (by kernel_rfl) (fun _ _ _ h => h) ?yi_1_12 hHeld ?re_1_12
    case op_1_12 => (simp only [List.getElem?_toArray, List.getElem?_cons_succ, List.getElem?_cons_zero]; rfl)
    case yi_1_12 => exact Or.inr ⟨by rfl, rfl⟩
    try simp only [Act.put, List.setIfInBounds_toArray, List.set_cons_zero, List.set_cons_succ]
    refine wpAnyH_take (i := 13) (oi := ?oq_1_13) (v := undef) ?op_1_13 (by kernel_rfl) (by kernel_rfl) (by kernel_rfl) (fun _ _ _ h => h) ?yi_1_13 hHeld ?re_1_13
    case op_1_13 => (simp only [List.getElem?_toArray, List.getElem?_cons_succ, List.getElem?_cons_zero]; rfl)
    case yi_1_13 => exact Or.inr ⟨by rfl, rfl⟩
    try simp only [Act.put, List.setIfInBounds_toArray, List.set_cons_zero, List.set_cons_succ]
    refine wpAnyH_take (i := 14) (oi := ?oq_1_14) (v := ?va_1_14) ?op_1_14 (by kernel_rfl) (by kernel_rfl) (by kernel_rfl) (fun _ _ _ h => h) ?yi_1_14 hHeld ?re_1_14
    case op_1_14 => (simp only [List.getElem?_toArray, List.getElem?_cons_succ, List.getElem?_cons_zero]; rfl)
    case yi_1_14 =>
      refine Or.inl ⟨by rfl, ?_⟩
      intro w hSw
      try dsimp only at hSw
      go_simp
      all_goals with_reducible rfl
    try simp only [Act.put, List.setIfInBounds_toArray, List.set_cons_zero, List.set_cons_succ]
    refine wpAnyH_take (i := 15) (oi := ?oq_1_15) (v := ?va_1_15) ?op_1_15 (by kernel_rfl) (by kernel_rfl) (by kernel_rfl) (fun _ _ _ h => h) ?yi_1_15 hHeld ?re_1_15
    case op_1_15 => (simp only [List.getElem?_toArray, List.getElem?_cons_succ, List.getElem?_cons_zero]; rfl)
    case yi_1_15 =>
      refine Or.inl ⟨by rfl, ?_⟩
      intro w hSw
      try dsimp only at hSw
      go_simp
      all_goals with_reducible rfl
    try simp only [Act.put, List.setIfInBounds_toArray, List.set_cons_zero, List.set_cons_succ]
    refine wpAnyH_take (i := 16) (oi := ?oq_1_16) (v := undef) ?op_1_16 (by kernel_rfl) (by kernel_rfl) (by kernel_rfl) (fun _ _ _ h => h) ?yi_1_16 hHeld ?re_1_16
    case op_1_16 => (simp only [List.getElem?_toArray, List.getElem?_cons_succ, List.getElem?_cons_zero]; rfl)
    case yi_1_16 => exact Or.inr ⟨by rfl, rfl⟩
    try simp only [Act.put, List.setIfInBounds_toArray, List.set_cons_zero, List.set_cons_succ]
    refine wpAnyH_take (i := 17) (oi := ?oq_1_17) (v := undef) ?op_1_17 (by kernel_rfl) (by kernel_rfl) (by kernel_rfl) (fun _ _ _ h => h) ?yi_1_17 hHeld ?re_1_17
    case op_1_17 => (simp only [List.getElem?_toArray, List.getElem?_cons_succ, List.getElem?_cons_zero]; rfl)
    case yi_1_17 => exact Or.inr ⟨by rfl, rfl⟩
    try simp only [Act.put, List.setIfInBounds_toArray, List.set_cons_zero, List.set_cons_succ]
    refine wpAnyH_take (i := 18) (oi := ?oq_1_18) (v := undef) ?op_1_18 (by kernel_rfl) (by kernel_rfl) (by kernel_rfl) (fun _ _ _ h => h) ?yi_1_18 hHeld ?re_1_18
    case op_1_18 => (simp only [List.getElem?_toArray, List.getElem?_cons_succ, List.getElem?_cons_zero]; rfl)
    case yi_1_18 => exact Or.inr ⟨by rfl, rfl⟩
    try simp only [Act.put, List.setIfInBounds_toArray, List.set_cons_zero, List.set_cons_succ]
    refine wpAnyH_take (i := 19) (oi := ?oq_1_19) (v := undef) ?op_1_19 (by kernel_rfl) (by kernel_rfl) (by kernel_rfl) (fun _ _ _ h => h) ?yi_1_19 hHeld ?re_1_19
    case op_1_19 => (simp only [List.getElem?_toArray, List.getElem?_cons_succ, List.getElem?_cons_zero]; rfl)
    case yi_1_19 => exact Or.inr ⟨by rfl, rfl⟩
    try simp only [Act.put, List.setIfInBounds_toArray, List.set_cons_zero, List.set_cons_succ]
    refine wpAnyH_take (i := 20) (oi := ?oq_1_20) (v := ?va_1_20) ?op_1_20 (by kernel_rfl) (by kernel_rfl) (by kernel_rfl) (fun _ _ _ h => h) ?yi_1_20 hHeld ?re_1_20
    case op_1_20 => (simp only [List.getElem?_toArray, List.getElem?_cons_succ, List.getElem?_cons_zero]; rfl)
    case yi_1_20 =>
      refine Or.inl ⟨by rfl, ?_⟩
      intro w hSw
      try dsimp only at hSw
      go_simp
      all_goals with_reducible rfl
    try simp only [Act.put, List.setIfInBounds_toArray, List.set_cons_zero, List.set_cons_succ]
    refine wpAnyH_done (by kernel_rfl) ?_ _
    refine NoPanic.normal ?_
    go_wp2_with fail
    go_ret
    exact ⟨by rw [← HB.out, HE.out]; rfl, hb⟩
  by_cases k2 : 15 < M.kind
  · have HE := Lib.hid (show mayW M = false by rw [Bool.eq_false_iff]; intro h; have := (mayW_iff.1 h).2.1; omega)
    refine wp_region_noPanic ?_
    refine wp_region_held_drew (S := (fun w' => w'.cell? ⟨m, 0, none⟩ = some (.int .i64 M.kind) ∧ w'.cell? ⟨m, 26, none⟩ = some (.slice a2 M.fires.length cap2) ∧ BlkAt w' m 40 cs)) (by kernel_rfl) (by exact ⟨hM.cell h0, hM.cell h26, hM⟩) (fun hHeld => ?_)
    refine wpAnyH_take (i := 0) (oi := ?oq_2_0) (v := ?va_2_0) ?op_2_0 (by kernel_rfl) (by kernel_rfl) (by kernel_rfl) (fun _ _ _ h => h) ?yi_2_0 hHeld ?re_2_0
    case op_2_0 => (simp only [List.getElem?_toArray, List.getElem?_cons_zero]; rfl)
    case yi_2_0 =>
      refine Or.inl ⟨by rfl, ?_⟩
      intro w hSw
      try dsimp only at hSw
      go_simp
      all_goals with_reducible rfl
    try simp only [Act.put, List.setIfInBounds_toArray, List.set_cons_zero, List.set_cons_succ]
    refine wpAnyH_take (i := 1) (oi := ?oq_2_1) (v := ?va_2_1) ?op_2_1 (by kernel_rfl) (by kernel_rfl) (by kernel_rfl) (fun _ _ _ h => h) ?yi_2_1 hHeld ?re_2_1
    case op_2_1 => (simp only [List.getElem?_toArray, List.getElem?_cons_succ, List.getElem?_cons_zero]; rfl)
    case yi_2_1 =>
      refine Or.inl ⟨by rfl, ?_⟩
      intro w hSw
      try dsimp only at hSw
      go_simp
      all_goals with_reducible rfl
    try simp only [Act.put, List.setIfInBounds_toArray, List.set_cons_zero, List.set_cons_succ]
    refine wpAnyH_take (i := 2) (oi := ?oq_2_2) (v := ?va_2_2) ?op_2_2 (by kernel_rfl) (by kernel_rfl) (by kernel_rfl) (fun _ _ _ h => h) ?yi_2_2 hHeld ?re_2_2
    case op_2_2 => (simp only [List.getElem?_toArray, List.getElem?_cons_succ, List.getElem?_cons_zero]; rfl)
    case yi_2_2 =>
      refine Or.inl ⟨by rfl, ?_⟩
      intro w hSw
      try dsimp only at hSw
      go_simp
      all_goals with_reducible rfl
    try simp only [Act.put, List.setIfInBounds_toArray, List.set_cons_zero, List.set_cons_succ]
    refine wpAnyH_take (i := 3) (oi := ?oq_2_3) (v := ?va_2_3) ?op_2_3 (by kernel_rfl) (by kernel_rfl) (by kernel_rfl) (fun _ _ _ h => h) ?yi_2_3 hHeld ?re_2_3
    case op_2_3 => (simp only [List.getElem?_toArray, List.getElem?_cons_succ, List.getElem?_cons_zero]; rfl)
    case yi_2_3 =>
      refine Or.inl ⟨by rfl, ?_⟩
      intro w hSw
      try dsimp only at hSw
      go_simp
      all_goals with_reducible rfl
    try simp only [Act.put, List.setIfInBounds_toArray, List.set_cons_zero, List.set_cons_succ]
    refine wpAnyH_take (i := 4) (oi := ?oq_2_4) (v := ?va_2_4) ?op_2_4 (by kernel_rfl) (by kernel_rfl) (by kernel_rfl) (fun _ _ _ h => h) ?yi_2_4 hHeld ?re_2_4
    case op_2_4 => (simp only [List.getElem?_toArray, List.getElem?_cons_succ, List.getElem?_cons_zero]; rfl)
    case yi_2_4 =>
      refine Or.inl ⟨by rfl, ?_⟩
      intro w hSw
      try dsimp only at hSw
      go_simp
      all_goals with_reducible rfl
    try simp only [Act.put, List.setIfInBounds_toArray, List.set_cons_zero, List.set_cons_succ]
    refine wpAnyH_take (i := 5) (oi := ?oq_2_5) (v := ?va_2_5) ?op_2_5 (by kernel_rfl) (by kernel_rfl) (by kernel_rfl) (fun _ _ _ h => h) ?yi_2_5 hHeld ?re_2_5
    case op_2_5 => (simp only [List.getElem?_toArray, List.getElem?_cons_succ, List.getElem?_cons_zero]; rfl)
    case yi_2_5 =>
      refine Or.inl ⟨by rfl, ?_⟩
      intro w hSw
      try dsimp only at hSw
      go_simp
      all_goals with_reducible rfl
    try simp only [Act.put, List.setIfInBounds_toArray, List.set_cons_zero, List.set_cons_succ]
    refine wpAnyH_take (i := 6) (oi := ?oq_2_6) (v := ?va_2_6) ?op_2_6 (by kernel_rfl) (by kernel_rfl) (by kernel_rfl) (fun _ _ _ h => h) ?yi_2_6 hHeld ?re_2_6
    case op_2_6 => (simp only [List.getElem?_toArray, List.getElem?_cons_succ, List.getElem?_cons_zero]; rfl)
    case yi_2_6 =>
      refine Or.inl ⟨by rfl, ?_⟩
      intro w hSw
      try dsimp only at hSw
      go_simp
      all_goals with_reducible rfl
    try simp only [Act.put, List.setIfInBounds_toArray, List.set_cons_zero, List.set_cons_succ]
    refine wpAnyH_take (i := 7) (oi := ?oq_2_7) (v := ?va_2_7) ?op_2_7 (by kernel_rfl) (by kernel_rfl) (by kernel_rfl) (fun _ _ _ h => h) ?yi_2_7 hHeld ?re_2_7
    case op_2_7 => (simp only [List.getElem?_toArray, List.getElem?_cons_succ, List.getElem?_cons_zero]; rfl)
    case yi_2_7 =>
      refine Or.inl ⟨by rfl, ?_⟩
      intro w hSw
      try dsimp only at hSw
      go_simp
      all_goals with_reducible rfl
    try simp only [Act.put, List.setIfInBounds_toArray, List.set_cons_zero, List.set_cons_succ]
    refine wpAnyH_take (i := 8) (oi := ?oq_2_8) (v := ?va_2_8) ?op_2_8 (by kernel_rfl) (by kernel_rfl) (by kernel_rfl) (fun _ _ _ h => h) ?yi_2_8 hHeld ?re_2_8
    case op_2_8 => (simp only [List.getElem?_toArray, List.getElem?_cons_succ, List.getElem?_cons_zero]; rfl)
    case yi_2_8 =>
      refine Or.inl ⟨by rfl, ?_⟩
      intro w hSw
      try dsimp only at hSw
      go_simp
      all_goals with_reducible rfl
    try simp only [Act.put, List.setIfInBounds_toArray, List.set_cons_zero, List.set_cons_succ]
    refine wpAnyH_take (i := 9) (oi := ?oq_2_9) (v := undef) ?op_2_9 (by kernel_rfl) (by kernel_rfl) (by kernel_rfl) (fun _ _ _ h => h) ?yi_2_9 hHeld ?re_2_9
    case op_2_9 => (simp only [List.getElem?_toArray, List.getElem?_cons_succ, List.getElem?_cons_zero]; rfl)
    case yi_2_9 => exact Or.inr ⟨by rfl, rfl⟩
    try simp only [Act.put, List.setIfInBounds_toArray, List.set_cons_zero, List.set_cons_succ]
    refine wpAnyH_take (i := 10) (oi := ?oq_2_10) (v := undef) ?op_2_10 (by kernel_rfl) (by kernel_rfl) (by kernel_rfl) (fun _ _ _ h => h) ?yi_2_10 hHeld ?re_2_10
    case op_2_10 => (simp only [List.getElem?_toArray, List.getElem?_cons_succ, List.getElem?_cons_zero]; rfl)
    case yi_2_10 => exact Or.inr ⟨by rfl, rfl⟩
    try simp only [Act.put, List.setIfInBounds_toArray, List.set_cons_zero, List.set_cons_succ]
    refine wpAnyH_take (i := 11) (oi := ?oq_2_11) (v := undef) ?op_2_11 (by kernel_rfl) (by kernel_rfl) (by kernel_rfl) (fun _ _ _ h => h) ?yi_2_11 hHeld ?re_2_11
    case op_2_11 => (simp only [List.getElem?_toArray, List.getElem?_cons_succ, List.getElem?_cons_zero]; rfl)
    case yi_2_11 => exact Or.inr ⟨by rfl, rfl⟩
    try simp only [Act.put, List.setIfInBounds_toArray, List.set_cons_zero, List.set_cons_succ]
    refine wpAnyH_take (i := 12) (oi := ?oq_2_12) (v := undef) ?op_2_12 (by kernel_rfl) (by kernel_rfl) (by kernel_rfl) (fun _ _ _ h => h) ?yi_2_12 hHeld ?re_2_12
    case op_2_12 => (simp only [List.getElem?_toArray, List.getElem?_cons_succ, List.getElem?_cons_zero]; rfl)
    case yi_2_12 => exact Or.inr ⟨by rfl, rfl⟩
    try simp only [Act.put, List.setIfInBounds_toArray, List.set_cons_zero, List.set_cons_succ]
    refine wpAnyH_take (i := 13) (oi := ?oq_2_13) (v := undef) ?op_2_13 (by kernel_rfl) (by kernel_rfl) (by kernel_rfl) (fun _ _ _ h => h) ?yi_2_13 hHeld ?re_2_13
    case op_2_13 => (simp only [List.getElem?_toArray, List.getElem?_cons_succ, List.getElem?_cons_zero]; rfl)
    case yi_2_13 => exact Or.inr ⟨by rfl, rfl⟩
    try simp only [Act.put, List.setIfInBounds_toArray, List.set_cons_zero, List.set_cons_succ]
    refine wpAnyH_take (i := 14) (oi := ?oq_2_14) (v := ?va_2_14) ?op_2_14 (by kernel_rfl) (by kernel_rfl) (by kernel_rfl) (fun _ _ _ h => h) ?yi_2_14 hHeld ?re_2_14
    case op_2_14 => (simp only [List.getElem?_toArray, List.getElem?_cons_succ, List.getElem?_cons_zero]; rfl)
    case yi_2_14 =>
      refine Or.inl ⟨by rfl, ?_⟩
      intro w hSw
      try dsimp only at hSw
      go_simp
      all_goals with_reducible rfl
    try simp only [Act.put, List.setIfInBounds_toArray, List.set_cons_zero, List.set_cons_succ]
    refine wpAnyH_take (i := 15) (oi := ?oq_2_15) (v := ?va_2_15) ?op_2_15 (by kernel_rfl) (by kernel_rfl) (by kernel_rfl) (fun _ _ _ h => h) ?yi_2_15 hHeld ?re_2_15
    case op_2_15 => (simp only [List.getElem?_toArray, List.getElem?_cons_succ, List.getElem?_cons_zero]; rfl)
    case yi_2_15 =>
      refine Or.inl ⟨by rfl, ?_⟩
      intro w hSw
      try dsimp only at hSw
      go_simp
      all_goals with_reducible rfl
    try simp only [Act.put, List.setIfInBounds_toArray, List.set_cons_zero, List.set_cons_succ]
    refine wpAnyH_take (i := 16) (oi := ?oq_2_16) (v := undef) ?op_2_16 (by kernel_rfl) (by kernel_rfl) (by kernel_rfl) (fun _ _ _ h => h) ?yi_2_16 hHeld ?re_2_16
    case op_2_16 => (simp only [List.getElem?_toArray, List.getElem?_cons_succ, List.getElem?_cons_zero]; rfl)
    case yi_2_16 => exact Or.inr ⟨by rfl, rfl⟩
    try simp only [Act.put, List.setIfInBounds_toArray, List.set_cons_zero, List.set_cons_succ]
    refine wpAnyH_take (i := 17) (oi := ?oq_2_17) (v := undef) ?op_2_17 (by kernel_rfl) (by kernel_rfl) (by kernel_rfl) (fun _ _ _ h => h) ?yi_2_17 hHeld ?re_2_17
    case op_2_17 => (simp only [List.getElem?_toArray, List.getElem?_cons_succ, List.getElem?_cons_zero]; rfl)
    case yi_2_17 => exact Or.inr ⟨by rfl, rfl⟩
    try simp only [Act.put, List.setIfInBounds_toArray, List.set_cons_zero, List.set_cons_succ]
    refine wpAnyH_take (i := 18) (oi := ?oq_2_18) (v := undef) ?op_2_18 (by kernel_rfl) (by kernel_rfl) (by kernel_rfl) (fun _ _ _ h => h) ?yi_2_18 hHeld ?re_2_18
    case op_2_18 => (simp only [List.getElem?_toArray, List.getElem?_cons_succ, List.getElem?_cons_zero]; rfl)
    case yi_2_18 => exact Or.inr ⟨by rfl, rfl⟩
    try simp only [Act.put, List.setIfInBounds_toArray, List.set_cons_zero, List.set_cons_succ]
    refine wpAnyH_take (i := 19) (oi := ?oq_2_19) (v := undef) ?op_2_19 (by kernel_rfl) (by kernel_rfl) (by kernel_rfl) (fun _ _ _ h => h) ?yi_2_19 hHeld ?re_2_19
    case op_2_19 => (simp only [List.getElem?_toArray, List.getElem?_cons_succ, List.getElem?_cons_zero]; rfl)
    case yi_2_19 => exact Or.inr ⟨by rfl, rfl⟩
    try simp only [Act.put, List.setIfInBounds_toArray, List.set_cons_zero, List.set_cons_succ]
    refine wpAnyH_take (i := 20) (oi := ?oq_2_20) (v := ?va_2_20) ?op_2_20 (by kernel_rfl) (by kernel_rfl) (by kernel_rfl) (fun _ _ _ h => h) ?yi_2_20 hHeld ?re_2_20
    case op_2_20 => (simp only [List.getElem?_toArray, List.getElem?_cons_succ, List.getElem?_cons_zero]; rfl)
    case yi_2_20 =>
      refine Or.inl ⟨by rfl, ?_⟩
      intro w hSw
      try dsimp only at hSw
      go_simp
      all_goals with_reducible rfl
    try simp only [Act.put, List.setIfInBounds_toArray, List.set_cons_zero, List.set_cons_succ]
    refine wpAnyH_done (by kernel_rfl) ?_ _
    refine NoPanic.normal ?_
    go_wp2_with fail
    go_ret
    exact ⟨by rw [← HB.out, HE.out]; rfl, hb⟩
  cases q with
  | false =>
    have HE := Lib.hid (show mayW M = false by rw [Bool.eq_false_iff]; intro h; exact absurd (mayW_iff.1 h).2.2.1 (of_decide_eq_false HQ.out.symm))
    refine wp_region_noPanic ?_
    refine wp_region_held_drew (S := (fun w' => w'.cell? ⟨m, 0, none⟩ = some (.int .i64 M.kind) ∧ w'.cell? ⟨m, 26, none⟩ = some (.slice a2 M.fires.length cap2) ∧ BlkAt w' m 40 cs)) (by kernel_rfl) (by exact ⟨hM.cell h0, hM.cell h26, hM⟩) (fun hHeld => ?_)
    refine wpAnyH_take (i := 0) (oi := ?oq_3_0) (v := ?va_3_0) ?op_3_0 (by kernel_rfl) (by kernel_rfl) (by kernel_rfl) (fun _ _ _ h => h) ?yi_3_0 hHeld ?re_3_0
    case op_3_0 => (simp only [List.getElem?_toArray, List.getElem?_cons_zero]; rfl)
    case yi_3_0 =>
      refine Or.inl ⟨by rfl, ?_⟩
      intro w hSw
      try dsimp only at hSw
      go_simp
      all_goals with_reducible rfl
    try simp only [Act.put, List.setIfInBounds_toArray, List.set_cons_zero, List.set_cons_succ]
    refine wpAnyH_take (i := 1) (oi := ?oq_3_1) (v := ?va_3_1) ?op_3_1 (by kernel_rfl) (by kernel_rfl) (by kernel_rfl) (fun _ _ _ h => h) ?yi_3_1 hHeld ?re_3_1
    case op_3_1 => (simp only [List.getElem?_toArray, List.getElem?_cons_succ, List.getElem?_cons_zero]; rfl)
    case yi_3_1 =>
      refine Or.inl ⟨by rfl, ?_⟩
      intro w hSw
      try dsimp only at hSw
      go_simp
      all_goals with_reducible rfl
    try simp only [Act.put, List.setIfInBounds_toArray, List.set_cons_zero, List.set_cons_succ]
    refine wpAnyH_take (i := 2) (oi := ?oq_3_2) (v := ?va_3_2) ?op_3_2 (by kernel_rfl) (by kernel_rfl) (by kernel_rfl) (fun _ _ _ h => h) ?yi_3_2 hHeld ?re_3_2
    case op_3_2 => (simp only [List.getElem?_toArray, List.getElem?_cons_succ, List.getElem?_cons_zero]; rfl)
    case yi_3_2 =>
      refine Or.inl ⟨by rfl, ?_⟩
      intro w hSw
      try dsimp only at hSw
      go_simp
      all_goals with_reducible rfl
    try simp only [Act.put, List.setIfInBounds_toArray, List.set_cons_zero, List.set_cons_succ]
    refine wpAnyH_take (i := 3) (oi := ?oq_3_3) (v := ?va_3_3) ?op_3_3 (by kernel_rfl) (by kernel_rfl) (by kernel_rfl) (fun _ _ _ h => h) ?yi_3_3 hHeld ?re_3_3
    case op_3_3 => (simp only [List.getElem?_toArray, List.getElem?_cons_succ, List.getElem?_cons_zero]; rfl)
    case yi_3_3 =>
      refine Or.inl ⟨by rfl, ?_⟩
      intro w hSw
      try dsimp only at hSw
      go_simp
      all_goals with_reducible rfl
    try simp only [Act.put, List.setIfInBounds_toArray, List.set_cons_zero, List.set_cons_succ]
    refine wpAnyH_take (i := 4) (oi := ?oq_3_4) (v := ?va_3_4) ?op_3_4 (by kernel_rfl) (by kernel_rfl) (by kernel_rfl) (fun _ _ _ h => h) ?yi_3_4 hHeld ?re_3_4
    case op_3_4 => (simp only [List.getElem?_toArray, List.getElem?_cons_succ, List.getElem?_cons_zero]; rfl)
    case yi_3_4 =>
      refine Or.inl ⟨by rfl, ?_⟩
      intro w hSw
      try dsimp only at hSw
      go_simp
      all_goals with_reducible rfl
    try simp only [Act.put, List.setIfInBounds_toArray, List.set_cons_zero, List.set_cons_succ]
    refine wpAnyH_take (i := 5) (oi := ?oq_3_5) (v := ?va_3_5) ?op_3_5 (by kernel_rfl) (by kernel_rfl) (by kernel_rfl) (fun _ _ _ h => h) ?yi_3_5 hHeld ?re_3_5
    case op_3_5 => (simp only [List.getElem?_toArray, List.getElem?_cons_succ, List.getElem?_cons_zero]; rfl)
    case yi_3_5 =>
      refine Or.inl ⟨by rfl, ?_⟩
      intro w hSw
      try dsimp only at hSw
      go_simp
      all_goals with_reducible rfl
    try simp only [Act.put, List.setIfInBounds_toArray, List.set_cons_zero, List.set_cons_succ]
    refine wpAnyH_take (i := 6) (oi := ?oq_3_6) (v := ?va_3_6) ?op_3_6 (by kernel_rfl) (by kernel_rfl) (by kernel_rfl) (fun _ _ _ h => h) ?yi_3_6 hHeld ?re_3_6
    case op_3_6 => (simp only [List.getElem?_toArray, List.getElem?_cons_succ, List.getElem?_cons_zero]; rfl)
    case yi_3_6 =>
      refine Or.inl ⟨by rfl, ?_⟩
      intro w hSw
      try dsimp only at hSw
      go_simp
      all_goals with_reducible rfl
    try simp only [Act.put, List.setIfInBounds_toArray, List.set_cons_zero, List.set_cons_succ]
    refine wpAnyH_take (i := 7) (oi := ?oq_3_7) (v := ?va_3_7) ?op_3_7 (by kernel_rfl) (by kernel_rfl) (by kernel_rfl) (fun _ _ _ h => h) ?yi_3_7 hHeld ?re_3_7
    case op_3_7 => (simp only [List.getElem?_toArray, List.getElem?_cons_succ, List.getElem?_cons_zero]; rfl)
    case yi_3_7 =>
      refine Or.inl ⟨by rfl, ?_⟩
      intro w hSw
      try dsimp only at hSw
      go_simp
      all_goals with_reducible rfl
    try simp only [Act.put, List.setIfInBounds_toArray, List.set_cons_zero, List.set_cons_succ]
    refine wpAnyH_take (i := 8) (oi := ?oq_3_8) (v := ?va_3_8) ?op_3_8 (by kernel_rfl) (by kernel_rfl) (by kernel_rfl) (fun _ _ _ h => h) ?yi_3_8 hHeld ?re_3_8
    case op_3_8 => (simp only [List.getElem?_toArray, List.getElem?_cons_succ, List.getElem?_cons_zero]; rfl)
    case yi_3_8 =>
      refine Or.inl ⟨by rfl, ?_⟩
      intro w hSw
      try dsimp only at hSw
      go_simp
      all_goals with_reducible rfl
    try simp only [Act.put, List.setIfInBounds_toArray, List.set_cons_zero, List.set_cons_succ]
    refine wpAnyH_take (i := 9) (oi := ?oq_3_9) (v := ?va_3_9) ?op_3_9 (by kernel_rfl) (by kernel_rfl) (by kernel_rfl) (fun _ _ _ h => h) ?yi_3_9 hHeld ?re_3_9
    case op_3_9 => (simp only [List.getElem?_toArray, List.getElem?_cons_succ, List.getElem?_cons_zero]; rfl)
    case yi_3_9 => exact (by
      refine yieldsIf_load_mid ?_ 40 (.tmp 1) ?_ m 0 ?_ cs _ ?_ Tryz.underlying40 ?_ (by rw [hlen]; exact msg_info)
      · rfl
      · rfl
      · rfl
      · intro w h
        have h : _ ∧ _ ∧ _ := h
        exact BlkAt.range h.2.2
      · rfl)
    try simp only [Act.put, List.setIfInBounds_toArray, List.set_cons_zero, List.set_cons_succ]
    refine wpAnyH_take (i := 10) (oi := ?oq_3_10) (v := ?va_3_10) ?op_3_10 (by kernel_rfl) (by kernel_rfl) (by kernel_rfl) (fun _ _ _ h => h) ?yi_3_10 hHeld ?re_3_10
    case op_3_10 => (simp only [List.getElem?_toArray, List.getElem?_cons_succ, List.getElem?_cons_zero]; rfl)
    case yi_3_10 => exact (by
      refine yieldsIf_load_mid ?_ 40 (.tmp 1) ?_ m 0 ?_ cs _ ?_ Tryz.underlying40 ?_ (by rw [hlen]; exact msg_info)
      · rfl
      · rfl
      · rfl
      · intro w h
        have h : _ ∧ _ ∧ _ := h
        exact BlkAt.range h.2.2
      · rfl)
    try simp only [Act.put, List.setIfInBounds_toArray, List.set_cons_zero, List.set_cons_succ]
    refine wpAnyH_ready (rs := [11]) (by kernel_rfl) (by simp) (AllReadyH.cons (o := ?oq_3_11) ?op_3_11 (fun K hK => ?re_3_11) AllReadyH.nil)
    case op_3_11 => (simp only [List.getElem?_toArray, List.getElem?_cons_succ, List.getElem?_cons_zero]; rfl)
    go_simp
    go_at_call 44
    refine (qonly_any (by exact hA) hop ⟨by omega, by omega⟩).mono ?_
    rintro en z1 ⟨ov, rfl, hOn, b9⟩
    have hMq := hM.below b9
    clear hM
    have hM := hMq
    clear hMq
    have hAq := hA.below b9
    clear hA
    have hA := hAq
    clear hAq
    have hbq := below_step hb b9
    clear hb
    have hb := hbq
    clear hbq b9
    refine hK.out _ _ (by exact ⟨hM.cell h0, hM.cell h26, hM⟩) (fun hHeld => ?_)
    clear hK K
    try simp only [Act.put, List.setIfInBounds_toArray, List.set_cons_zero, List.set_cons_succ]
    refine wpAnyH_ready (rs := [12]) (by kernel_rfl) (by simp) (AllReadyH.cons (o := ?oq_3_12) ?op_3_12 (fun K hK => ?re_3_12) AllReadyH.nil)
    case op_3_12 => (simp only [List.getElem?_toArray, List.getElem?_cons_succ, List.getElem?_cons_zero]; rfl)
    go_simp
    go_at_call 14
    refine (qwsame_any (by exact hA) (by exact hOn) hop hop3).mono ?_
    rintro en z2 ⟨rfl, b9⟩
    rw [← HQ.out]
    have hMq := hM.below b9
    clear hM
    have hM := hMq
    clear hMq
    have hAq := hA.below b9
    clear hA
    have hA := hAq
    clear hAq
    have hbq := below_step hb b9
    clear hb
    have hb := hbq
    clear hbq b9
    refine hK.out _ _ (by exact ⟨hM.cell h0, hM.cell h26, hM⟩) (fun hHeld => ?_)
    clear hK K
    try simp only [Act.put, List.setIfInBounds_toArray, List.set_cons_zero, List.set_cons_succ]
    refine wpAnyH_take (i := 13) (oi := ?oq_3_13) (v := ?va_3_13) ?op_3_13 (by kernel_rfl) (by kernel_rfl) (by kernel_rfl) (fun _ _ _ h => h) ?yi_3_13 hHeld ?re_3_13
    case op_3_13 => (simp only [List.getElem?_toArray, List.getElem?_cons_succ, List.getElem?_cons_zero]; rfl)
    case yi_3_13 =>
      refine Or.inl ⟨by rfl, ?_⟩
      intro w hSw
      try dsimp only at hSw
      go_simp
      all_goals with_reducible rfl
    try simp only [Act.put, List.setIfInBounds_toArray, List.set_cons_zero, List.set_cons_succ]
    refine wpAnyH_take (i := 14) (oi := ?oq_3_14) (v := ?va_3_14) ?op_3_14 (by kernel_rfl) (by kernel_rfl) (by kernel_rfl) (fun _ _ _ h => h) ?yi_3_14 hHeld ?re_3_14
    case op_3_14 => (simp only [List.getElem?_toArray, List.getElem?_cons_succ, List.getElem?_cons_zero]; rfl)
    case yi_3_14 =>
      refine Or.inl ⟨by rfl, ?_⟩
      intro w hSw
      try dsimp only at hSw
      go_simp
      all_goals with_reducible rfl
    try simp only [Act.put, List.setIfInBounds_toArray, List.set_cons_zero, List.set_cons_succ]
    refine wpAnyH_take (i := 15) (oi := ?oq_3_15) (v := ?va_3_15) ?op_3_15 (by kernel_rfl) (by kernel_rfl) (by kernel_rfl) (fun _ _ _ h => h) ?yi_3_15 hHeld ?re_3_15
    case op_3_15 => (simp only [List.getElem?_toArray, List.getElem?_cons_succ, List.getElem?_cons_zero]; rfl)
    case yi_3_15 =>
      refine Or.inl ⟨by rfl, ?_⟩
      intro w hSw
      try dsimp only at hSw
      go_simp
      all_goals with_reducible rfl
    try simp only [Act.put, List.setIfInBounds_toArray, List.set_cons_zero, List.set_cons_succ]
    refine wpAnyH_take (i := 16) (oi := ?oq_3_16) (v := undef) ?op_3_16 (by kernel_rfl) (by kernel_rfl) (by kernel_rfl) (fun _ _ _ h => h) ?yi_3_16 hHeld ?re_3_16
    case op_3_16 => (simp only [List.getElem?_toArray, List.getElem?_cons_succ, List.getElem?_cons_zero]; rfl)
    case yi_3_16 => exact Or.inr ⟨by rfl, rfl⟩
    try simp only [Act.put, List.setIfInBounds_toArray, List.set_cons_zero, List.set_cons_succ]
    refine wpAnyH_take (i := 17) (oi := ?oq_3_17) (v := undef) ?op_3_17 (by kernel_rfl) (by kernel_rfl) (by kernel_rfl) (fun _ _ _ h => h) ?yi_3_17 hHeld ?re_3_17
    case op_3_17 => (simp only [List.getElem?_toArray, List.getElem?_cons_succ, List.getElem?_cons_zero]; rfl)
    case yi_3_17 => exact Or.inr ⟨by rfl, rfl⟩
    try simp only [Act.put, List.setIfInBounds_toArray, List.set_cons_zero, List.set_cons_succ]
    refine wpAnyH_take (i := 18) (oi := ?oq_3_18) (v := undef) ?op_3_18 (by kernel_rfl) (by kernel_rfl) (by kernel_rfl) (fun _ _ _ h => h) ?yi_3_18 hHeld ?re_3_18
    case op_3_18 => (simp only [List.getElem?_toArray, List.getElem?_cons_succ, List.getElem?_cons_zero]; rfl)
    case yi_3_18 => exact Or.inr ⟨by rfl, rfl⟩
    try simp only [Act.put, List.setIfInBounds_toArray, List.set_cons_zero, List.set_cons_succ]
    refine wpAnyH_take (i := 19) (oi := ?oq_3_19) (v := undef) ?op_3_19 (by kernel_rfl) (by kernel_rfl) (by kernel_rfl) (fun _ _ _ h => h) ?yi_3_19 hHeld ?re_3_19
    case op_3_19 => (simp only [List.getElem?_toArray, List.getElem?_cons_succ, List.getElem?_cons_zero]; rfl)
    case yi_3_19 => exact Or.inr ⟨by rfl, rfl⟩
    try simp only [Act.put, List.setIfInBounds_toArray, List.set_cons_zero, List.set_cons_succ]
    refine wpAnyH_take (i := 20) (oi := ?oq_3_20) (v := ?va_3_20) ?op_3_20 (by kernel_rfl) (by kernel_rfl) (by kernel_rfl) (fun _ _ _ h => h) ?yi_3_20 hHeld ?re_3_20
    case op_3_20 => (simp only [List.getElem?_toArray, List.getElem?_cons_succ, List.getElem?_cons_zero]; rfl)
    case yi_3_20 =>
      refine Or.inl ⟨by rfl, ?_⟩
      intro w hSw
      try dsimp only at hSw
      go_simp
      all_goals with_reducible rfl
    try simp only [Act.put, List.setIfInBounds_toArray, List.set_cons_zero, List.set_cons_succ]
    refine wpAnyH_done (by kernel_rfl) ?_ _
    refine NoPanic.normal ?_
    go_wp2_with fail
    go_ret
    exact ⟨by rw [← HB.out, HE.out]; rfl, hb⟩
  | true =>
    by_cases k3 : 8 < M.fires.length
    · have k3' : (8 : Int) < (M.fires.length : Int) := by omega
      have HE := Lib.hid (show mayW M = false by rw [Bool.eq_false_iff]; intro h; have := (mayW_iff.1 h).2.2.2.1; omega)
      refine wp_region_noPanic ?_
      refine wp_region_held_drew (S := (fun w' => w'.cell? ⟨m, 0, none⟩ = some (.int .i64 M.kind) ∧ w'.cell? ⟨m, 26, none⟩ = some (.slice a2 M.fires.length cap2) ∧ BlkAt w' m 40 cs)) (by kernel_rfl) (by exact ⟨hM.cell h0, hM.cell h26, hM⟩) (fun hHeld => ?_)
      refine wpAnyH_take (i := 0) (oi := ?oq_4_0) (v := ?va_4_0) ?op_4_0 (by kernel_rfl) (by kernel_rfl) (by kernel_rfl) (fun _ _ _ h => h) ?yi_4_0 hHeld ?re_4_0
      case op_4_0 => (simp only [List.getElem?_toArray, List.getElem?_cons_zero]; rfl)
      case yi_4_0 =>
        refine Or.inl ⟨by rfl, ?_⟩
        intro w hSw
        try dsimp only at hSw
        go_simp
        all_goals with_reducible rfl
      try simp only [Act.put, List.setIfInBounds_toArray, List.set_cons_zero, List.set_cons_succ]
      refine wpAnyH_take (i := 1) (oi := ?oq_4_1) (v := ?va_4_1) ?op_4_1 (by kernel_rfl) (by kernel_rfl) (by kernel_rfl) (fun _ _ _ h => h) ?yi_4_1 hHeld ?re_4_1
      case op_4_1 => (simp only [List.getElem?_toArray, List.getElem?_cons_succ, List.getElem?_cons_zero]; rfl)
      case yi_4_1 =>
        refine Or.inl ⟨by rfl, ?_⟩
        intro w hSw
        try dsimp only at hSw
        go_simp
        all_goals with_reducible rfl
      try simp only [Act.put, List.setIfInBounds_toArray, List.set_cons_zero, List.set_cons_succ]
      refine wpAnyH_take (i := 2) (oi := ?oq_4_2) (v := ?va_4_2) ?op_4_2 (by kernel_rfl) (by kernel_rfl) (by kernel_rfl) (fun _ _ _ h => h) ?yi_4_2 hHeld ?re_4_2
      case op_4_2 => (simp only [List.getElem?_toArray, List.getElem?_cons_succ, List.getElem?_cons_zero]; rfl)
      case yi_4_2 =>
        refine Or.inl ⟨by rfl, ?_⟩
        intro w hSw
        try dsimp only at hSw
        go_simp
        all_goals with_reducible rfl
      try simp only [Act.put, List.setIfInBounds_toArray, List.set_cons_zero, List.set_cons_succ]
      refine wpAnyH_take (i := 3) (oi := ?oq_4_3) (v := ?va_4_3) ?op_4_3 (by kernel_rfl) (by kernel_rfl) (by kernel_rfl) (fun _ _ _ h => h) ?yi_4_3 hHeld ?re_4_3
      case op_4_3 => (simp only [List.getElem?_toArray, List.getElem?_cons_succ, List.getElem?_cons_zero]; rfl)
      case yi_4_3 =>
        refine Or.inl ⟨by rfl, ?_⟩
        intro w hSw
        try dsimp only at hSw
        go_simp
        all_goals with_reducible rfl
      try simp only [Act.put, List.setIfInBounds_toArray, List.set_cons_zero, List.set_cons_succ]
      refine wpAnyH_take (i := 4) (oi := ?oq_4_4) (v := ?va_4_4) ?op_4_4 (by kernel_rfl) (by kernel_rfl) (by kernel_rfl) (fun _ _ _ h => h) ?yi_4_4 hHeld ?re_4_4
      case op_4_4 => (simp only [List.getElem?_toArray, List.getElem?_cons_succ, List.getElem?_cons_zero]; rfl)
      case yi_4_4 =>
        refine Or.inl ⟨by rfl, ?_⟩
        intro w hSw
        try dsimp only at hSw
        go_simp
        all_goals with_reducible rfl
      try simp only [Act.put, List.setIfInBounds_toArray, List.set_cons_zero, List.set_cons_succ]
      refine wpAnyH_take (i := 5) (oi := ?oq_4_5) (v := ?va_4_5) ?op_4_5 (by kernel_rfl) (by kernel_rfl) (by kernel_rfl) (fun _ _ _ h => h) ?yi_4_5 hHeld ?re_4_5
      case op_4_5 => (simp only [List.getElem?_toArray, List.getElem?_cons_succ, List.getElem?_cons_zero]; rfl)
      case yi_4_5 =>
        refine Or.inl ⟨by rfl, ?_⟩
        intro w hSw
        try dsimp only at hSw
        go_simp
        all_goals with_reducible rfl
      try simp only [Act.put, List.setIfInBounds_toArray, List.set_cons_zero, List.set_cons_succ]
      refine wpAnyH_take (i := 6) (oi := ?oq_4_6) (v := ?va_4_6) ?op_4_6 (by kernel_rfl) (by kernel_rfl) (by kernel_rfl) (fun _ _ _ h => h) ?yi_4_6 hHeld ?re_4_6
      case op_4_6 => (simp only [List.getElem?_toArray, List.getElem?_cons_succ, List.getElem?_cons_zero]; rfl)
      case yi_4_6 =>
        refine Or.inl ⟨by rfl, ?_⟩
        intro w hSw
        try dsimp only at hSw
        go_simp
        all_goals with_reducible rfl
      try simp only [Act.put, List.setIfInBounds_toArray, List.set_cons_zero, List.set_cons_succ]
      refine wpAnyH_take (i := 7) (oi := ?oq_4_7) (v := ?va_4_7) ?op_4_7 (by kernel_rfl) (by kernel_rfl) (by kernel_rfl) (fun _ _ _ h => h) ?yi_4_7 hHeld ?re_4_7
      case op_4_7 => (simp only [List.getElem?_toArray, List.getElem?_cons_succ, List.getElem?_cons_zero]; rfl)
      case yi_4_7 =>
        refine Or.inl ⟨by rfl, ?_⟩
        intro w hSw
        try dsimp only at hSw
        go_simp
        all_goals with_reducible rfl
      try simp only [Act.put, List.setIfInBounds_toArray, List.set_cons_zero, List.set_cons_succ]
      refine wpAnyH_take (i := 8) (oi := ?oq_4_8) (v := ?va_4_8) ?op_4_8 (by kernel_rfl) (by kernel_rfl) (by kernel_rfl) (fun _ _ _ h => h) ?yi_4_8 hHeld ?re_4_8
      case op_4_8 => (simp only [List.getElem?_toArray, List.getElem?_cons_succ, List.getElem?_cons_zero]; rfl)
      case yi_4_8 =>
        refine Or.inl ⟨by rfl, ?_⟩
        intro w hSw
        try dsimp only at hSw
        go_simp
        all_goals with_reducible rfl
      try simp only [Act.put, List.setIfInBounds_toArray, List.set_cons_zero, List.set_cons_succ]
      refine wpAnyH_take (i := 9) (oi := ?oq_4_9) (v := ?va_4_9) ?op_4_9 (by kernel_rfl) (by kernel_rfl) (by kernel_rfl) (fun _ _ _ h => h) ?yi_4_9 hHeld ?re_4_9
      case op_4_9 => (simp only [List.getElem?_toArray, List.getElem?_cons_succ, List.getElem?_cons_zero]; rfl)
      case yi_4_9 => exact (by
        refine yieldsIf_load_mid ?_ 40 (.tmp 1) ?_ m 0 ?_ cs _ ?_ Tryz.underlying40 ?_ (by rw [hlen]; exact msg_info)
        · rfl
        · rfl
        · rfl
        · intro w h
          have h : _ ∧ _ ∧ _ := h
          exact BlkAt.range h.2.2
        · rfl)
      try simp only [Act.put, List.setIfInBounds_toArray, List.set_cons_zero, List.set_cons_succ]
      refine wpAnyH_take (i := 10) (oi := ?oq_4_10) (v := ?va_4_10) ?op_4_10 (by kernel_rfl) (by kernel_rfl) (by kernel_rfl) (fun _ _ _ h => h) ?yi_4_10 hHeld ?re_4_10
      case op_4_10 => (simp only [List.getElem?_toArray, List.getElem?_cons_succ, List.getElem?_cons_zero]; rfl)
      case yi_4_10 => exact (by
        refine yieldsIf_load_mid ?_ 40 (.tmp 1) ?_ m 0 ?_ cs _ ?_ Tryz.underlying40 ?_ (by rw [hlen]; exact msg_info)
        · rfl
        · rfl
        · rfl
        · intro w h
          have h : _ ∧ _ ∧ _ := h
          exact BlkAt.range h.2.2
        · rfl)
      try simp only [Act.put, List.setIfInBounds_toArray, List.set_cons_zero, List.set_cons_succ]
      refine wpAnyH_ready (rs := [11]) (by kernel_rfl) (by simp) (AllReadyH.cons (o := ?oq_4_11) ?op_4_11 (fun K hK => ?re_4_11) AllReadyH.nil)
      case op_4_11 => (simp only [List.getElem?_toArray, List.getElem?_cons_succ, List.getElem?_cons_zero]; rfl)
      go_simp
      go_at_call 44
      refine (qonly_any (by exact hA) hop ⟨by omega, by omega⟩).mono ?_
      rintro en z1 ⟨ov, rfl, hOn, b9⟩
      have hMq := hM.below b9
      clear hM
      have hM := hMq
      clear hMq
      have hAq := hA.below b9
      clear hA
      have hA := hAq
      clear hAq
      have hbq := below_step hb b9
      clear hb
      have hb := hbq
      clear hbq b9
      refine hK.out _ _ (by exact ⟨hM.cell h0, hM.cell h26, hM⟩) (fun hHeld => ?_)
      clear hK K
      try simp only [Act.put, List.setIfInBounds_toArray, List.set_cons_zero, List.set_cons_succ]
      refine wpAnyH_ready (rs := [12]) (by kernel_rfl) (by simp) (AllReadyH.cons (o := ?oq_4_12) ?op_4_12 (fun K hK => ?re_4_12) AllReadyH.nil)
      case op_4_12 => (simp only [List.getElem?_toArray, List.getElem?_cons_succ, List.getElem?_cons_zero]; rfl)
      go_simp
      go_at_call 14
      refine (qwsame_any (by exact hA) (by exact hOn) hop hop3).mono ?_
      rintro en z2 ⟨rfl, b9⟩
      rw [← HQ.out]
      have hMq := hM.below b9
      clear hM
      have hM := hMq
      clear hMq
      have hAq := hA.below b9
      clear hA
      have hA := hAq
      clear hAq
      have hbq := below_step hb b9
      clear hb
      have hb := hbq
      clear hbq b9
      refine hK.out _ _ (by exact ⟨hM.cell h0, hM.cell h26, hM⟩) (fun hHeld => ?_)
      clear hK K
      try simp only [Act.put, List.setIfInBounds_toArray, List.set_cons_zero, List.set_cons_succ]
      refine wpAnyH_take (i := 13) (oi := ?oq_4_13) (v := ?va_4_13) ?op_4_13 (by kernel_rfl) (by kernel_rfl) (by kernel_rfl) (fun _ _ _ h => h) ?yi_4_13 hHeld ?re_4_13
      case op_4_13 => (simp only [List.getElem?_toArray, List.getElem?_cons_succ, List.getElem?_cons_zero]; rfl)
      case yi_4_13 =>
        refine Or.inl ⟨by rfl, ?_⟩
        intro w hSw
        try dsimp only at hSw
        go_simp
        all_goals with_reducible rfl
      try simp only [Act.put, List.setIfInBounds_toArray, List.set_cons_zero, List.set_cons_succ]
      refine wpAnyH_take (i := 14) (oi := ?oq_4_14) (v := ?va_4_14) ?op_4_14 (by kernel_rfl) (by kernel_rfl) (by kernel_rfl) (fun _ _ _ h => h) ?yi_4_14 hHeld ?re_4_14
      case op_4_14 => (simp only [List.getElem?_toArray, List.getElem?_cons_succ, List.getElem?_cons_zero]; rfl)
      case yi_4_14 =>
        refine Or.inl ⟨by rfl, ?_⟩
        intro w hSw
        try dsimp only at hSw
        go_simp
        all_goals with_reducible rfl
      try simp only [Act.put, List.setIfInBounds_toArray, List.set_cons_zero, List.set_cons_succ]
      refine wpAnyH_take (i := 15) (oi := ?oq_4_15) (v := ?va_4_15) ?op_4_15 (by kernel_rfl) (by kernel_rfl) (by kernel_rfl) (fun _ _ _ h => h) ?yi_4_15 hHeld ?re_4_15
      case op_4_15 => (simp only [List.getElem?_toArray, List.getElem?_cons_succ, List.getElem?_cons_zero]; rfl)
      case yi_4_15 =>
        refine Or.inl ⟨by rfl, ?_⟩
        intro w hSw
        try dsimp only at hSw
        go_simp
        all_goals with_reducible rfl
      try simp only [Act.put, List.setIfInBounds_toArray, List.set_cons_zero, List.set_cons_succ]
      refine wpAnyH_take (i := 16) (oi := ?oq_4_16) (v := ?va_4_16) ?op_4_16 (by kernel_rfl) (by kernel_rfl) (by kernel_rfl) (fun _ _ _ h => h) ?yi_4_16 hHeld ?re_4_16
      case op_4_16 => (simp only [List.getElem?_toArray, List.getElem?_cons_succ, List.getElem?_cons_zero]; rfl)
      case yi_4_16 =>
        refine Or.inl ⟨by rfl, ?_⟩
        intro w hSw
        try dsimp only at hSw
        go_simp
        all_goals with_reducible rfl
      try simp only [Act.put, List.setIfInBounds_toArray, List.set_cons_zero, List.set_cons_succ]
      refine wpAnyH_take (i := 17) (oi := ?oq_4_17) (v := ?va_4_17) ?op_4_17 (by kernel_rfl) (by kernel_rfl) (by kernel_rfl) (fun _ _ _ h => h) ?yi_4_17 hHeld ?re_4_17
      case op_4_17 => (simp only [List.getElem?_toArray, List.getElem?_cons_succ, List.getElem?_cons_zero]; rfl)
      case yi_4_17 =>
        refine Or.inl ⟨by rfl, ?_⟩
        intro w hSw
        try dsimp only at hSw
        go_simp
        all_goals with_reducible rfl
      try simp only [Act.put, List.setIfInBounds_toArray, List.set_cons_zero, List.set_cons_succ]
      refine wpAnyH_take (i := 18) (oi := ?oq_4_18) (v := ?va_4_18) ?op_4_18 (by kernel_rfl) (by kernel_rfl) (by kernel_rfl) (fun _ _ _ h => h) ?yi_4_18 hHeld ?re_4_18
      case op_4_18 => (simp only [List.getElem?_toArray, List.getElem?_cons_succ, List.getElem?_cons_zero]; rfl)
      case yi_4_18 =>
        refine Or.inl ⟨by rfl, ?_⟩
        intro w hSw
        try dsimp only at hSw
        go_simp
        all_goals with_reducible rfl
      try simp only [Act.put, List.setIfInBounds_toArray, List.set_cons_zero, List.set_cons_succ]
      refine wpAnyH_take (i := 19) (oi := ?oq_4_19) (v := ?va_4_19) ?op_4_19 (by kernel_rfl) (by kernel_rfl) (by kernel_rfl) (fun _ _ _ h => h) ?yi_4_19 hHeld ?re_4_19
      case op_4_19 => (simp only [List.getElem?_toArray, List.getElem?_cons_succ, List.getElem?_cons_zero]; rfl)
      case yi_4_19 =>
        refine Or.inl ⟨by rfl, ?_⟩
        intro w hSw
        try dsimp only at hSw
        go_simp
        all_goals with_reducible rfl
      try simp only [Act.put, List.setIfInBounds_toArray, List.set_cons_zero, List.set_cons_succ]
      refine wpAnyH_take (i := 20) (oi := ?oq_4_20) (v := ?va_4_20) ?op_4_20 (by kernel_rfl) (by kernel_rfl) (by kernel_rfl) (fun _ _ _ h => h) ?yi_4_20 hHeld ?re_4_20
      case op_4_20 => (simp only [List.getElem?_toArray, List.getElem?_cons_succ, List.getElem?_cons_zero]; rfl)
      case yi_4_20 =>
        refine Or.inl ⟨by rfl, ?_⟩
        intro w hSw
        try dsimp only at hSw
        go_simp
        all_goals with_reducible rfl
      try simp only [Act.put, List.setIfInBounds_toArray, List.set_cons_zero, List.set_cons_succ]
      refine wpAnyH_done (by kernel_rfl) ?_ _
      refine NoPanic.normal ?_
      go_wp2_with fail
      go_ret
      exact ⟨by rw [← HB.out, HE.out]; rfl, hb⟩
    · have k3' : ¬ (8 : Int) < (M.fires.length : Int) := by omega
      have HMQ := Lib.hid (of_decide_eq_true HQ.out.symm)
      refine wp_region_noPanic ?_
      refine wp_region_held_drew (S := (fun w' => w'.cell? ⟨m, 0, none⟩ = some (.int .i64 M.kind) ∧ w'.cell? ⟨m, 26, none⟩ = some (.slice a2 M.fires.length cap2) ∧ BlkAt w' m 40 cs)) (by kernel_rfl) (by exact ⟨hM.cell h0, hM.cell h26, hM⟩) (fun hHeld => ?_)
      refine wpAnyH_take (i := 0) (oi := ?oq_5_0) (v := ?va_5_0) ?op_5_0 (by kernel_rfl) (by kernel_rfl) (by kernel_rfl) (fun _ _ _ h => h) ?yi_5_0 hHeld ?re_5_0
      case op_5_0 => (simp only [List.getElem?_toArray, List.getElem?_cons_zero]; rfl)
      case yi_5_0 =>
        refine Or.inl ⟨by rfl, ?_⟩
        intro w hSw
        try dsimp only at hSw
        go_simp
        all_goals with_reducible rfl
      try simp only [Act.put, List.setIfInBounds_toArray, List.set_cons_zero, List.set_cons_succ]
      refine wpAnyH_take (i := 1) (oi := ?oq_5_1) (v := ?va_5_1) ?op_5_1 (by kernel_rfl) (by kernel_rfl) (by kernel_rfl) (fun _ _ _ h => h) ?yi_5_1 hHeld ?re_5_1
      case op_5_1 => (simp only [List.getElem?_toArray, List.getElem?_cons_succ, List.getElem?_cons_zero]; rfl)
      case yi_5_1 =>
        refine Or.inl ⟨by rfl, ?_⟩
        intro w hSw
        try dsimp only at hSw
        go_simp
        all_goals with_reducible rfl
      try simp only [Act.put, List.setIfInBounds_toArray, List.set_cons_zero, List.set_cons_succ]
      refine wpAnyH_take (i := 2) (oi := ?oq_5_2) (v := ?va_5_2) ?op_5_2 (by kernel_rfl) (by kernel_rfl) (by kernel_rfl) (fun _ _ _ h => h) ?yi_5_2 hHeld ?re_5_2
      case op_5_2 => (simp only [List.getElem?_toArray, List.getElem?_cons_succ, List.getElem?_cons_zero]; rfl)
      case yi_5_2 =>
        refine Or.inl ⟨by rfl, ?_⟩
        intro w hSw
        try dsimp only at hSw
        go_simp
        all_goals with_reducible rfl
      try simp only [Act.put, List.setIfInBounds_toArray, List.set_cons_zero, List.set_cons_succ]
      refine wpAnyH_take (i := 3) (oi := ?oq_5_3) (v := ?va_5_3) ?op_5_3 (by kernel_rfl) (by kernel_rfl) (by kernel_rfl) (fun _ _ _ h => h) ?yi_5_3 hHeld ?re_5_3
      case op_5_3 => (simp only [List.getElem?_toArray, List.getElem?_cons_succ, List.getElem?_cons_zero]; rfl)
      case yi_5_3 =>
        refine Or.inl ⟨by rfl, ?_⟩
        intro w hSw
        try dsimp only at hSw
        go_simp
        all_goals with_reducible rfl
      try simp only [Act.put, List.setIfInBounds_toArray, List.set_cons_zero, List.set_cons_succ]
      refine wpAnyH_take (i := 4) (oi := ?oq_5_4) (v := ?va_5_4) ?op_5_4 (by kernel_rfl) (by kernel_rfl) (by kernel_rfl) (fun _ _ _ h => h) ?yi_5_4 hHeld ?re_5_4
      case op_5_4 => (simp only [List.getElem?_toArray, List.getElem?_cons_succ, List.getElem?_cons_zero]; rfl)
      case yi_5_4 =>
        refine Or.inl ⟨by rfl, ?_⟩
        intro w hSw
        try dsimp only at hSw
        go_simp
        all_goals with_reducible rfl
      try simp only [Act.put, List.setIfInBounds_toArray, List.set_cons_zero, List.set_cons_succ]
      refine wpAnyH_take (i := 5) (oi := ?oq_5_5) (v := ?va_5_5) ?op_5_5 (by kernel_rfl) (by kernel_rfl) (by kernel_rfl) (fun _ _ _ h => h) ?yi_5_5 hHeld ?re_5_5
      case op_5_5 => (simp only [List.getElem?_toArray, List.getElem?_cons_succ, List.getElem?_cons_zero]; rfl)
      case yi_5_5 =>
        refine Or.inl ⟨by rfl, ?_⟩
        intro w hSw
        try dsimp only at hSw
        go_simp
        all_goals with_reducible rfl
      try simp only [Act.put, List.setIfInBounds_toArray, List.set_cons_zero, List.set_cons_succ]
      refine wpAnyH_take (i := 6) (oi := ?oq_5_6) (v := ?va_5_6) ?op_5_6 (by kernel_rfl) (by kernel_rfl) (by kernel_rfl) (fun _ _ _ h => h) ?yi_5_6 hHeld ?re_5_6
      case op_5_6 => (simp only [List.getElem?_toArray, List.getElem?_cons_succ, List.getElem?_cons_zero]; rfl)
      case yi_5_6 =>
        refine Or.inl ⟨by rfl, ?_⟩
        intro w hSw
        try dsimp only at hSw
        go_simp
        all_goals with_reducible rfl
      try simp only [Act.put, List.setIfInBounds_toArray, List.set_cons_zero, List.set_cons_succ]
      refine wpAnyH_take (i := 7) (oi := ?oq_5_7) (v := ?va_5_7) ?op_5_7 (by kernel_rfl) (by kernel_rfl) (by kernel_rfl) (fun _ _ _ h => h) ?yi_5_7 hHeld ?re_5_7
      case op_5_7 => (simp only [List.getElem?_toArray, List.getElem?_cons_succ, List.getElem?_cons_zero]; rfl)
      case yi_5_7 =>
        refine Or.inl ⟨by rfl, ?_⟩
        intro w hSw
        try dsimp only at hSw
        go_simp
        all_goals with_reducible rfl
      try simp only [Act.put, List.setIfInBounds_toArray, List.set_cons_zero, List.set_cons_succ]
      refine wpAnyH_take (i := 8) (oi := ?oq_5_8) (v := ?va_5_8) ?op_5_8 (by kernel_rfl) (by kernel_rfl) (by kernel_rfl) (fun _ _ _ h => h) ?yi_5_8 hHeld ?re_5_8
      case op_5_8 => (simp only [List.getElem?_toArray, List.getElem?_cons_succ, List.getElem?_cons_zero]; rfl)
      case yi_5_8 =>
        refine Or.inl ⟨by rfl, ?_⟩
        intro w hSw
        try dsimp only at hSw
        go_simp
        all_goals with_reducible rfl
      try simp only [Act.put, List.setIfInBounds_toArray, List.set_cons_zero, List.set_cons_succ]
      refine wpAnyH_take (i := 9) (oi := ?oq_5_9) (v := ?va_5_9) ?op_5_9 (by kernel_rfl) (by kernel_rfl) (by kernel_rfl) (fun _ _ _ h => h) ?yi_5_9 hHeld ?re_5_9
      case op_5_9 => (simp only [List.getElem?_toArray, List.getElem?_cons_succ, List.getElem?_cons_zero]; rfl)
      case yi_5_9 => exact (by
        refine yieldsIf_load_mid ?_ 40 (.tmp 1) ?_ m 0 ?_ cs _ ?_ Tryz.underlying40 ?_ (by rw [hlen]; exact msg_info)
        · rfl
        · rfl
        · rfl
        · intro w h
          have h : _ ∧ _ ∧ _ := h
          exact BlkAt.range h.2.2
        · rfl)
      try simp only [Act.put, List.setIfInBounds_toArray, List.set_cons_zero, List.set_cons_succ]
      refine wpAnyH_take (i := 10) (oi := ?oq_5_10) (v := ?va_5_10) ?op_5_10 (by kernel_rfl) (by kernel_rfl) (by kernel_rfl) (fun _ _ _ h => h) ?yi_5_10 hHeld ?re_5_10
      case op_5_10 => (simp only [List.getElem?_toArray, List.getElem?_cons_succ, List.getElem?_cons_zero]; rfl)
      case yi_5_10 => exact (by
        refine yieldsIf_load_mid ?_ 40 (.tmp 1) ?_ m 0 ?_ cs _ ?_ Tryz.underlying40 ?_ (by rw [hlen]; exact msg_info)
        · rfl
        · rfl
        · rfl
        · intro w h
          have h : _ ∧ _ ∧ _ := h
          exact BlkAt.range h.2.2
        · rfl)
      try simp only [Act.put, List.setIfInBounds_toArray, List.set_cons_zero, List.set_cons_succ]
      refine wpAnyH_ready (rs := [11]) (by kernel_rfl) (by simp) (AllReadyH.cons (o := ?oq_5_11) ?op_5_11 (fun K hK => ?re_5_11) AllReadyH.nil)
      case op_5_11 => (simp only [List.getElem?_toArray, List.getElem?_cons_succ, List.getElem?_cons_zero]; rfl)
      go_simp
      go_at_call 44
      refine (qonly_any (by exact hA) hop ⟨by omega, by omega⟩).mono ?_
      rintro en z1 ⟨ov, rfl, hOn, b9⟩
      have hMq := hM.below b9
      clear hM
      have hM := hMq
      clear hMq
      have hAq := hA.below b9
      clear hA
      have hA := hAq
      clear hAq
      have hbq := below_step hb b9
      clear hb
      have hb := hbq
      clear hbq b9
      refine hK.out _ _ (by exact ⟨hM.cell h0, hM.cell h26, hM⟩) (fun hHeld => ?_)
      clear hK K
      try simp only [Act.put, List.setIfInBounds_toArray, List.set_cons_zero, List.set_cons_succ]
      refine wpAnyH_ready (rs := [12]) (by kernel_rfl) (by simp) (AllReadyH.cons (o := ?oq_5_12) ?op_5_12 (fun K hK => ?re_5_12) AllReadyH.nil)
      case op_5_12 => (simp only [List.getElem?_toArray, List.getElem?_cons_succ, List.getElem?_cons_zero]; rfl)
      go_simp
      go_at_call 14
      refine (qwsame_any (by exact hA) (by exact hOn) hop hop3).mono ?_
      rintro en z2 ⟨rfl, b9⟩
      rw [← HQ.out]
      have hMq := hM.below b9
      clear hM
      have hM := hMq
      clear hMq
      have hAq := hA.below b9
      clear hA
      have hA := hAq
      clear hAq
      have hbq := below_step hb b9
      clear hb
      have hb := hbq
      clear hbq b9
      refine hK.out _ _ (by exact ⟨hM.cell h0, hM.cell h26, hM⟩) (fun hHeld => ?_)
      clear hK K
      try simp only [Act.put, List.setIfInBounds_toArray, List.set_cons_zero, List.set_cons_succ]
      refine wpAnyH_take (i := 13) (oi := ?oq_5_13) (v := ?va_5_13) ?op_5_13 (by kernel_rfl) (by kernel_rfl) (by kernel_rfl) (fun _ _ _ h => h) ?yi_5_13 hHeld ?re_5_13
      case op_5_13 => (simp only [List.getElem?_toArray, List.getElem?_cons_succ, List.getElem?_cons_zero]; rfl)
      case yi_5_13 =>
        refine Or.inl ⟨by rfl, ?_⟩
        intro w hSw
        try dsimp only at hSw
        go_simp
        all_goals with_reducible rfl
      try simp only [Act.put, List.setIfInBounds_toArray, List.set_cons_zero, List.set_cons_succ]
      refine wpAnyH_take (i := 14) (oi := ?oq_5_14) (v := ?va_5_14) ?op_5_14 (by kernel_rfl) (by kernel_rfl) (by kernel_rfl) (fun _ _ _ h => h) ?yi_5_14 hHeld ?re_5_14
      case op_5_14 => (simp only [List.getElem?_toArray, List.getElem?_cons_succ, List.getElem?_cons_zero]; rfl)
      case yi_5_14 =>
        refine Or.inl ⟨by rfl, ?_⟩
        intro w hSw
        try dsimp only at hSw
        go_simp
        all_goals with_reducible rfl
      try simp only [Act.put, List.setIfInBounds_toArray, List.set_cons_zero, List.set_cons_succ]
      refine wpAnyH_take (i := 15) (oi := ?oq_5_15) (v := ?va_5_15) ?op_5_15 (by kernel_rfl) (by kernel_rfl) (by kernel_rfl) (fun _ _ _ h => h) ?yi_5_15 hHeld ?re_5_15
      case op_5_15 => (simp only [List.getElem?_toArray, List.getElem?_cons_succ, List.getElem?_cons_zero]; rfl)
      case yi_5_15 =>
        refine Or.inl ⟨by rfl, ?_⟩
        intro w hSw
        try dsimp only at hSw
        go_simp
        all_goals with_reducible rfl
      try simp only [Act.put, List.setIfInBounds_toArray, List.set_cons_zero, List.set_cons_succ]
      refine wpAnyH_take (i := 16) (oi := ?oq_5_16) (v := ?va_5_16) ?op_5_16 (by kernel_rfl) (by kernel_rfl) (by kernel_rfl) (fun _ _ _ h => h) ?yi_5_16 hHeld ?re_5_16
      case op_5_16 => (simp only [List.getElem?_toArray, List.getElem?_cons_succ, List.getElem?_cons_zero]; rfl)
      case yi_5_16 =>
        refine Or.inl ⟨by rfl, ?_⟩
        intro w hSw
        try dsimp only at hSw
        go_simp
        all_goals with_reducible rfl
      try simp only [Act.put, List.setIfInBounds_toArray, List.set_cons_zero, List.set_cons_succ]
      refine wpAnyH_take (i := 17) (oi := ?oq_5_17) (v := ?va_5_17) ?op_5_17 (by kernel_rfl) (by kernel_rfl) (by kernel_rfl) (fun _ _ _ h => h) ?yi_5_17 hHeld ?re_5_17
      case op_5_17 => (simp only [List.getElem?_toArray, List.getElem?_cons_succ, List.getElem?_cons_zero]; rfl)
      case yi_5_17 =>
        refine Or.inl ⟨by rfl, ?_⟩
        intro w hSw
        try dsimp only at hSw
        go_simp
        all_goals with_reducible rfl
      try simp only [Act.put, List.setIfInBounds_toArray, List.set_cons_zero, List.set_cons_succ]
      refine wpAnyH_take (i := 18) (oi := ?oq_5_18) (v := ?va_5_18) ?op_5_18 (by kernel_rfl) (by kernel_rfl) (by kernel_rfl) (fun _ _ _ h => h) ?yi_5_18 hHeld ?re_5_18
      case op_5_18 => (simp only [List.getElem?_toArray, List.getElem?_cons_succ, List.getElem?_cons_zero]; rfl)
      case yi_5_18 =>
        refine Or.inl ⟨by rfl, ?_⟩
        intro w hSw
        try dsimp only at hSw
        go_simp
        all_goals with_reducible rfl
      try simp only [Act.put, List.setIfInBounds_toArray, List.set_cons_zero, List.set_cons_succ]
      refine wpAnyH_take (i := 19) (oi := ?oq_5_19) (v := ?va_5_19) ?op_5_19 (by kernel_rfl) (by kernel_rfl) (by kernel_rfl) (fun _ _ _ h => h) ?yi_5_19 hHeld ?re_5_19
      case op_5_19 => (simp only [List.getElem?_toArray, List.getElem?_cons_succ, List.getElem?_cons_zero]; rfl)
      case yi_5_19 =>
        refine Or.inl ⟨by rfl, ?_⟩
        intro w hSw
        try dsimp only at hSw
        go_simp
        all_goals with_reducible rfl
      try simp only [Act.put, List.setIfInBounds_toArray, List.set_cons_zero, List.set_cons_succ]
      refine wpAnyH_take (i := 20) (oi := ?oq_5_20) (v := ?va_5_20) ?op_5_20 (by kernel_rfl) (by kernel_rfl) (by kernel_rfl) (fun _ _ _ h => h) ?yi_5_20 hHeld ?re_5_20
      case op_5_20 => (simp only [List.getElem?_toArray, List.getElem?_cons_succ, List.getElem?_cons_zero]; rfl)
      case yi_5_20 =>
        refine Or.inl ⟨by rfl, ?_⟩
        intro w hSw
        try dsimp only at hSw
        go_simp
        all_goals with_reducible rfl
      try simp only [Act.put, List.setIfInBounds_toArray, List.set_cons_zero, List.set_cons_succ]
      refine wpAnyH_done (by kernel_rfl) ?_ _
      refine NoPanic.normal ?_
      by_cases k5 : M.kind = 5
      · have b5 : (M.kind == 5) = true := by simp; omega
        have b7 : (M.kind == 7) = false := by simp; omega
        have b2 : (M.kind != 2) = true := by simp; omega
        have c0 := hM.cell h0
        have m11 := hM.cell HOP.out.1
        have m12 := hM.cell HOP.out.2.1
        have m13 := hM.cell HOP.out.2.2.1
        have m14 := hM.cell HOP.out.2.2.2.1
        have m15 := hM.cell HOP.out.2.2.2.2.1
        have m16 := hM.cell HOP.out.2.2.2.2.2.1
        have m17 := hM.cell HOP.out.2.2.2.2.2.2.1
        have m18 := hM.cell HOP.out.2.2.2.2.2.2.2.1
        have m19 := hM.cell HOP.out.2.2.2.2.2.2.2.2.1
        have m20 := hM.cell HOP.out.2.2.2.2.2.2.2.2.2.1
        obtain ⟨r, hr⟩ : ∃ r, r = mayOp ⟨ok, [x1, x2, x3, x4, x5, x6, x7, x8], oc⟩ := ⟨_, rfl⟩
        have HRR := Lib.hid hr
        clear hr
        go_wp2_with fail
        refine (qmay_any (o := ⟨ok, [x1, x2, x3, x4, x5, x6, x7, x8], oc⟩) hoo _).mono ?_
        rintro en w8 ⟨rfl, b8⟩
        rw [← HRR.out]
        have hM8 := hM.below b8
        have hb8 := below_step hb b8
        clear c0 m11 m12 m13 m14 m15 m16 m17 m18 m19 m20 hM hb b8
        have c0 := hM8.cell h0
        cases r with
        | false =>
          have HE := Lib.hid (show mayW M = false by
            rw [Bool.eq_false_iff]
            intro h
            have h2 := (mayW_iff.1 h).2.2.2.2.1 (by omega)
            rw [hO, ← HRR.out] at h2
            exact Bool.noConfusion h2)
          go_wp2_with fail
          go_ret
          exact ⟨by rw [← HB.out, HE.out]; rfl, hb8⟩
        | true =>
          have HE := Lib.hid (show mayW M = true from mayW_iff.2 ⟨by omega, by omega, HMQ.out, by omega, fun _ => by rw [hO, ← HRR.out], fun h => by omega⟩)
          go_wp2_with fail
          go_ret
          exact ⟨by rw [← HB.out, HE.out]; rfl, hb8⟩
      by_cases k7 : M.kind = 7
      · have b5 : (M.kind == 5) = false := by simp; omega
        have b7 : (M.kind == 7) = true := by simp; omega
        have b2 : (M.kind != 2) = true := by simp; omega
        have c0 := hM.cell h0
        have m11 := hM.cell HOP.out.1
        have m12 := hM.cell HOP.out.2.1
        have m13 := hM.cell HOP.out.2.2.1
        have m14 := hM.cell HOP.out.2.2.2.1
        have m15 := hM.cell HOP.out.2.2.2.2.1
        have m16 := hM.cell HOP.out.2.2.2.2.2.1
        have m17 := hM.cell HOP.out.2.2.2.2.2.2.1
        have m18 := hM.cell HOP.out.2.2.2.2.2.2.2.1
        have m19 := hM.cell HOP.out.2.2.2.2.2.2.2.2.1
        have m20 := hM.cell HOP.out.2.2.2.2.2.2.2.2.2.1
        obtain ⟨r, hr⟩ : ∃ r, r = mayOp ⟨ok, [x1, x2, x3, x4, x5, x6, x7, x8], oc⟩ := ⟨_, rfl⟩
        have HRR := Lib.hid hr
        clear hr
        go_wp2_with fail
        refine (qmay_any (o := ⟨ok, [x1, x2, x3, x4, x5, x6, x7, x8], oc⟩) hoo _).mono ?_
        rintro en w8 ⟨rfl, b8⟩
        rw [← HRR.out]
        have hM8 := hM.below b8
        have hb8 := below_step hb b8
        clear c0 m11 m12 m13 m14 m15 m16 m17 m18 m19 m20 hM hb b8
        have c0 := hM8.cell h0
        cases r with
        | false =>
          have HE := Lib.hid (show mayW M = false by
            rw [Bool.eq_false_iff]
            intro h
            have h2 := (mayW_iff.1 h).2.2.2.2.1 (by omega)
            rw [hO, ← HRR.out] at h2
            exact Bool.noConfusion h2)
          go_wp2_with fail
          go_ret
          exact ⟨by rw [← HB.out, HE.out]; rfl, hb8⟩
        | true =>
          have HE := Lib.hid (show mayW M = true from mayW_iff.2 ⟨by omega, by omega, HMQ.out, by omega, fun _ => by rw [hO, ← HRR.out], fun h => by omega⟩)
          go_wp2_with fail
          go_ret
          exact ⟨by rw [← HB.out, HE.out]; rfl, hb8⟩
      have b5 : (M.kind == 5) = false := by simpa using k5
      have b7 : (M.kind == 7) = false := by simpa using k7
      by_cases k22 : M.kind = 2
      · have b2 : (M.kind != 2) = false := by simpa using k22
        have c0 := hM.cell h0
        have m24 := hM.cell HOP.out.2.2.2.2.2.2.2.2.2.2.1
        have m25 := hM.cell HOP.out.2.2.2.2.2.2.2.2.2.2.2
        obtain ⟨r, hr⟩ : ∃ r, r = rightC ⟨M.cf.epoch, M.cf.chain⟩ := ⟨_, rfl⟩
        have HRR := Lib.hid hr
        clear hr
        go_wp2_with fail
        refine (qcright_any (by exact HC.out.below hb) M.cf.epoch).mono ?_
        rintro en w8 ⟨rfl, b8⟩
        rw [← HRR.out]
        have hb8 := below_step hb b8
        have HE := Lib.hid (show mayW M = r by
          rw [HRR.out, Bool.eq_iff_iff]
          exact ⟨fun h => (mayW_iff.1 h).2.2.2.2.2 k22, fun h => mayW_iff.2 ⟨by omega, by omega, HMQ.out, by omega, fun h => by omega, fun _ => h⟩⟩)
        clear c0 m24 m25 hM hb b8
        go_wp2_with fail
        go_ret
        exact ⟨by rw [← HB.out, HE.out]; rfl, hb8⟩
      · have b2 : (M.kind != 2) = true := by simpa using k22
        have c0 := hM.cell h0
        have HE := Lib.hid (show mayW M = true from mayW_iff.2 ⟨by omega, by omega, HMQ.out, by omega, fun h => by omega, fun h => absurd h k22⟩)
        go_wp2_with fail
        go_ret
        exact ⟨by rw [← HB.out, HE.out]; rfl, hb⟩
end Go.Proofs.YtnaabaahfjklhaaGreat
namespace Go.Proofs.YtnaabaahfjklhaaGreat
open Go.RowKit Go.ChangeShapes Go.WideShapes Go.Joins Go.Deep Fld
set_option linter.unusedVariables false

theorem qwnum_any (i : Int) (hi : W64 i) (w : World) :
    Calls Tryz.prog 47 #[.int .i64 i] w fun e w' => e = .returned (.string ⟨(enc (zig i)).toArray⟩) ∧ Below w.heap.size w w' := by
  go_enter Tryz.func47, Tryz.ntmps47
  go_wp2_with fail
  refine (qint_any i hi _).mono ?_
  rintro en w1 ⟨rfl, b1⟩
  go_wp2_with fail
  go_ret
  exact ⟨rfl, b1⟩
theorem charAt {R : List Fld} {j : Nat} {F : Fld} (h : R[j]? = some F) : (R.map charOf)[j]? = some (charOf F) := by rw [List.getElem?_map, h]; rfl
theorem qhead_join (k d : Int) : (⟨[UInt8.ofNat (k % 256).toNat].toArray⟩ : ByteArray) ++ ⟨(enc (zig d)).toArray⟩ = ⟨(kindB k :: encI [d]).toArray⟩ := by
  rw [str_join]; simp [kindB, encI]

set_option maxRecDepth 100000 in
set_option maxHeartbeats 20000000 in

theorem qwprint_lit {w : World} {k dst fn fl ep seq req cl id un : Int} {flag : Bool} {ok a1 a2 a3 a4 a5 a6 a7 a8 : Int} {oc : List UInt8} {re rg rd ce life : Int} {ch : List SeatV} {fires : List FireV} {va ua : Option Addr} {vc uc : Nat} (hv1 : ChainAt w (.slice va ch.length vc) ch) (hv2 : FiresAt w (.slice ua fires.length uc) fires) (hk : 1 ≤ k ∧ k ≤ 15) (hf8 : fires.length ≤ 8) {M : MsgV} (hMM : (⟨k, dst, fn, fl, ep, seq, req, cl, id, un, flag, ⟨ok, [a1, a2, a3, a4, a5, a6, a7, a8], oc⟩, re, rg, rd, ⟨ce, ch⟩, fires, life⟩ : MsgV) = M) (hok : MOk M) (hs : MSmall M) :
    Calls Tryz.prog 35 #[.agg #[.int .i64 k, .int .i64 dst, .int .i64 fn, .int .i64 fl, .int .i64 ep, .int .i64 seq, .int .i64 req, .int .i64 cl, .int .i64 id, .int .i64 un, .bool flag, .int .i64 ok, .int .i64 a1, .int .i64 a2, .int .i64 a3, .int .i64 a4, .int .i64 a5, .int .i64 a6, .int .i64 a7, .int .i64 a8, .string ⟨oc.toArray⟩, .int .i64 re, .int .i64 rg, .int .i64 rd, .int .i64 ce, .slice va ch.length vc, .slice ua fires.length uc, .int .i64 life]] w fun en w' => en = .returned (.string ⟨(frame (textOf M)).toArray⟩) ∧ Below w.heap.size w w' := by
  have hn := hok.nums
  rw [← hMM] at hn
  simp only [List.mem_cons, List.not_mem_nil, or_false, forall_eq_or_imp, forall_eq] at hn
  obtain ⟨q0, q1, q2, q3, q4, q5, q6, q7, q8, q9, q10, q11, q12, q13, q14⟩ := hn
  have hoo := hok.op
  rw [← hMM] at hoo
  simp only at hoo
  have hcl := hs.chain
  have hocl := hs.cron
  rw [← hMM] at hcl hocl
  simp only at hcl hocl
  have hcl : ch.length ≤ 100000 := by omega
  have hocl : oc.length ≤ 1000000 := by omega
  have HRL := Lib.hid (rowLen k)
  have HFL := Lib.hid (fldsLen hok hs)
  have HLF := Lib.hid (encFld_len hok hs)
  have hok := Lib.hid hok
  have hMM := Lib.hid hMM
  have HTX : Hid (textOf M = (kindB k :: encI [dst]) ++ (fieldsOf k).flatMap (encFld M)) := Lib.hid (by rw [textOf, ← hMM.out]; rfl)
  clear hs
  go_enter Tryz.func35, Tryz.ntmps35
  go_upto_region 1 with (fail)
  have hA : BlkAt (w.alloc (.cells #[.int .i64 k, .int .i64 dst, .int .i64 fn, .int .i64 fl, .int .i64 ep, .int .i64 seq, .int .i64 req, .int .i64 cl, .int .i64 id, .int .i64 un, .bool flag, .int .i64 ok, .int .i64 a1, .int .i64 a2, .int .i64 a3, .int .i64 a4, .int .i64 a5, .int .i64 a6, .int .i64 a7, .int .i64 a8, .string ⟨oc.toArray⟩, .int .i64 re, .int .i64 rg, .int .i64 rd, .int .i64 ce, .slice va ch.length vc, .slice ua fires.length uc, .int .i64 life] 40)) w.heap.size 40 [.int .i64 k, .int .i64 dst, .int .i64 fn, .int .i64 fl, .int .i64 ep, .int .i64 seq, .int .i64 req, .int .i64 cl, .int .i64 id, .int .i64 un, .bool flag, .int .i64 ok, .int .i64 a1, .int .i64 a2, .int .i64 a3, .int .i64 a4, .int .i64 a5, .int .i64 a6, .int .i64 a7, .int .i64 a8, .string ⟨oc.toArray⟩, .int .i64 re, .int .i64 rg, .int .i64 rd, .int .i64 ce, .slice va ch.length vc, .slice ua fires.length uc, .int .i64 life] := BlkAt.new w 40 [.int .i64 k, .int .i64 dst, .int .i64 fn, .int .i64 fl, .int .i64 ep, .int .i64 seq, .int .i64 req, .int .i64 cl, .int .i64 id, .int .i64 un, .bool flag, .int .i64 ok, .int .i64 a1, .int .i64 a2, .int .i64 a3, .int .i64 a4, .int .i64 a5, .int .i64 a6, .int .i64 a7, .int .i64 a8, .string ⟨oc.toArray⟩, .int .i64 re, .int .i64 rg, .int .i64 rd, .int .i64 ce, .slice va ch.length vc, .slice ua fires.length uc, .int .i64 life]
  have hb : Below w.heap.size w (w.alloc (.cells #[.int .i64 k, .int .i64 dst, .int .i64 fn, .int .i64 fl, .int .i64 ep, .int .i64 seq, .int .i64 req, .int .i64 cl, .int .i64 id, .int .i64 un, .bool flag, .int .i64 ok, .int .i64 a1, .int .i64 a2, .int .i64 a3, .int .i64 a4, .int .i64 a5, .int .i64 a6, .int .i64 a7, .int .i64 a8, .string ⟨oc.toArray⟩, .int .i64 re, .int .i64 rg, .int .i64 rd, .int .i64 ce, .slice va ch.length vc, .slice ua fires.length uc, .int .i64 life] 40)) := (Below.refl w.heap.size w).alloc (Nat.le_refl _) _
  have hWs : w.heap.size + 1 ≤ (w.alloc (.cells #[.int .i64 k, .int .i64 dst, .int .i64 fn, .int .i64 fl, .int .i64 ep, .int .i64 seq, .int .i64 req, .int .i64 cl, .int .i64 id, .int .i64 un, .bool flag, .int .i64 ok, .int .i64 a1, .int .i64 a2, .int .i64 a3, .int .i64 a4, .int .i64 a5, .int .i64 a6, .int .i64 a7, .int .i64 a8, .string ⟨oc.toArray⟩, .int .i64 re, .int .i64 rg, .int .i64 rd, .int .i64 ce, .slice va ch.length vc, .slice ua fires.length uc, .int .i64 life] 40)).heap.size := by simp
  change Code.wp _ _ _ _ (w.alloc (.cells #[.int .i64 k, .int .i64 dst, .int .i64 fn, .int .i64 fl, .int .i64 ep, .int .i64 seq, .int .i64 req, .int .i64 cl, .int .i64 id, .int .i64 un, .bool flag, .int .i64 ok, .int .i64 a1, .int .i64 a2, .int .i64 a3, .int .i64 a4, .int .i64 a5, .int .i64 a6, .int .i64 a7, .int .i64 a8, .string ⟨oc.toArray⟩, .int .i64 re, .int .i64 rg, .int .i64 rd, .int .i64 ce, .slice va ch.length vc, .slice ua fires.length uc, .int .i64 life] 40))
  generalize w.alloc (.cells #[.int .i64 k, .int .i64 dst, .int .i64 fn, .int .i64 fl, .int .i64 ep, .int .i64 seq, .int .i64 req, .int .i64 cl, .int .i64 id, .int .i64 un, .bool flag, .int .i64 ok, .int .i64 a1, .int .i64 a2, .int .i64 a3, .int .i64 a4, .int .i64 a5, .int .i64 a6, .int .i64 a7, .int .i64 a8, .string ⟨oc.toArray⟩, .int .i64 re, .int .i64 rg, .int .i64 rd, .int .i64 ce, .slice va ch.length vc, .slice ua fires.length uc, .int .i64 life] 40) = W at *
  obtain ⟨m, hm⟩ : ∃ m, m = w.heap.size := ⟨_, rfl⟩
  have hmw : w.heap.size ≤ m := Nat.le_of_eq hm.symm
  rw [← hm] at hA ⊢
  clear hm hWs
  go_cut [3] (fun s wx => s = .string ⟨(kindB k :: encI [dst]).toArray⟩ ∧ BlkAt wx m 40 [.int .i64 k, .int .i64 dst, .int .i64 fn, .int .i64 fl, .int .i64 ep, .int .i64 seq, .int .i64 req, .int .i64 cl, .int .i64 id, .int .i64 un, .bool flag, .int .i64 ok, .int .i64 a1, .int .i64 a2, .int .i64 a3, .int .i64 a4, .int .i64 a5, .int .i64 a6, .int .i64 a7, .int .i64 a8, .string ⟨oc.toArray⟩, .int .i64 re, .int .i64 rg, .int .i64 rd, .int .i64 ce, .slice va ch.length vc, .slice ua fires.length uc, .int .i64 life] ∧ Below w.heap.size w wx)
  case first =>
    have c0 := hA.cell (i := 0) (v := .int .i64 k) rfl
    have c1 := hA.cell (i := 1) (v := .int .i64 dst) rfl
    have e1 := (enc_len (zig dst)).2
    have zz : ¬ 9223372036854775807 < 1 + (enc (zig dst)).length := by omega
    have hcv : ∀ (W : World) (g : Nat), ByteBlk k W g → (convert 54 9 (.slice (some ⟨g, 0, none⟩) 1 1)).run Tryz.prog W = .ok (.string ⟨[UInt8.ofNat (k % 256).toNat].toArray⟩) W := fun W g h => h.conv
    have f1 : ∀ (U : World), ByteBlk k (U.alloc (.cells #[.int .u8 (IntKind.u8.wrap k)] 5)) U.heap.size := fun U => heap_alloc_new _ _
    have d1 : ∀ (U : World), ByteBlk k (U.alloc (.cells #[.int .u8 (IntKind.u8.wrap k)] 5)).drew U.heap.size := f1
    have hMA : BlkAt (W.alloc (.cells #[.int .u8 (IntKind.u8.wrap k)] 5)).drew m 40 [.int .i64 k, .int .i64 dst, .int .i64 fn, .int .i64 fl, .int .i64 ep, .int .i64 seq, .int .i64 req, .int .i64 cl, .int .i64 id, .int .i64 un, .bool flag, .int .i64 ok, .int .i64 a1, .int .i64 a2, .int .i64 a3, .int .i64 a4, .int .i64 a5, .int .i64 a6, .int .i64 a7, .int .i64 a8, .string ⟨oc.toArray⟩, .int .i64 re, .int .i64 rg, .int .i64 rd, .int .i64 ce, .slice va ch.length vc, .slice ua fires.length uc, .int .i64 life] := (hA.alloc (.cells #[.int .u8 (IntKind.u8.wrap k)] 5)).drew
    have hbA : Below w.heap.size w (W.alloc (.cells #[.int .u8 (IntKind.u8.wrap k)] 5)).drew := below_drewN (hb.alloc hb.size (.cells #[.int .u8 (IntKind.u8.wrap k)] 5)) 1
    go_region_held (fun w' => w'.cell? ⟨m, 0, none⟩ = some (.int .i64 k) ∧ w'.cell? ⟨m, 1, none⟩ = some (.int .i64 dst))
      (go_keep)
      ((go_at_call 47; refine (qwnum_any dst q1 _).mono ?_; rintro en wz ⟨rfl, bz⟩; (try have q0 : ByteBlk k wz W.heap.size := ByteBlk.below (by exact d1 W) bz); have hA1 : BlkAt wz m 40 [.int .i64 k, .int .i64 dst, .int .i64 fn, .int .i64 fl, .int .i64 ep, .int .i64 seq, .int .i64 req, .int .i64 cl, .int .i64 id, .int .i64 un, .bool flag, .int .i64 ok, .int .i64 a1, .int .i64 a2, .int .i64 a3, .int .i64 a4, .int .i64 a5, .int .i64 a6, .int .i64 a7, .int .i64 a8, .string ⟨oc.toArray⟩, .int .i64 re, .int .i64 rg, .int .i64 rd, .int .i64 ce, .slice va ch.length vc, .slice ua fires.length uc, .int .i64 life] := BlkAt.below (by first | exact hA | exact hA.drew | exact hMA) bz; have hb1 : Below w.heap.size w wz := below_step (by first | exact hb | exact below_drewN hb 1 | exact hbA) bz; have c0 := hA1.cell (i := 0) (v := .int .i64 k) rfl; have c1 := hA1.cell (i := 1) (v := .int .i64 dst) rfl; clear bz))
    all_goals
      clear hcv f1 d1 hMA hbA
      go_wp2_with fail
      go_meet
      first
        | exact ⟨congrArg Value.string (qhead_join k dst), hA1, hb1⟩
        | exact ⟨congrArg Value.string (qhead_join k dst), hA1.alloc _, hb1.alloc hb1.size _⟩
  case rest =>
    obtain ⟨rfl, hA, hb⟩ := hcut
    have c0 := hA.cell (i := 0) (v := .int .i64 k) rfl
    go_wp2_with fail
    refine (qrow_any hk _).mono ?_
    rintro en w2 ⟨rfl, b2⟩
    have hA2 := hA.below b2
    have hb2 := below_step hb b2
    clear c0 hA hb b2
    have hrt : rowText k = (fieldsOf k).map charOf := rfl
    rw [hrt]
    have hP : (kindB k :: encI [dst]).length ≤ 11 := by
      have := encI_len [dst]
      simp only [List.length_cons, List.length_nil] at this ⊢
      omega
    generalize kindB k :: encI [dst] = P at *
    generalize fieldsOf k = Fs at *
    clear hrt
    have hrl := HRL.out
    go_wp2_with fail
    go_loopw [3, 5] (fun s i wr => ∃ j : Nat, j ≤ Fs.length ∧ s = .string ⟨(P ++ (Fs.take j).flatMap (encFld M)).toArray⟩ ∧ i = .int .i64 j ∧ BlkAt wr m 40 [.int .i64 k, .int .i64 dst, .int .i64 fn, .int .i64 fl, .int .i64 ep, .int .i64 seq, .int .i64 req, .int .i64 cl, .int .i64 id, .int .i64 un, .bool flag, .int .i64 ok, .int .i64 a1, .int .i64 a2, .int .i64 a3, .int .i64 a4, .int .i64 a5, .int .i64 a6, .int .i64 a7, .int .i64 a8, .string ⟨oc.toArray⟩, .int .i64 re, .int .i64 rg, .int .i64 rd, .int .i64 ce, .slice va ch.length vc, .slice ua fires.length uc, .int .i64 life] ∧ Below w.heap.size w wr) (fun _ i _ => Fs.length - (intOf i).toNat)
    case atStart => exact ⟨0, Nat.zero_le _, by simp, rfl, hA2, hb2⟩
    case round =>
      obtain ⟨j, hj, rfl, rfl, hMr, hbr⟩ := hrel
      clear hA2 hb2
      by_cases hlt : j < Fs.length
      · obtain ⟨F, hF⟩ : ∃ F, Fs[j]? = some F := ⟨_, List.getElem?_eq_getElem hlt⟩
        have HS := Lib.hid (show P ++ (Fs.take (j + 1)).flatMap (encFld M) = (P ++ (Fs.take j).flatMap (encFld M)) ++ encFld M F by rw [flds_snoc hF, List.append_assoc])
        have hix := fun w => index_at (Fs.map charOf) j (charOf F) (charAt hF) w
        have hTl : (P ++ (Fs.take j).flatMap (encFld M)).length ≤ 800000 := by
          have h1 := HFL.out (Fs.take j)
          have h2 : (Fs.take j).length ≤ 7 := by rw [List.length_take]; omega
          rw [List.length_append]
          omega
        clear hF
        generalize P ++ (Fs.take j).flatMap (encFld M) = T at *
        cases F with
        | fE =>
          as_aux_lemma =>
            have ma := hMr.cell (i := 4) (v := .int .i64 ep) rfl
            have e1 := (enc_len (zig ep)).2
            have zz : ¬ 9223372036854775807 < T.length + (enc (zig ep)).length := by omega
            go_wp2_with fail
            refine (qwnum_any ep q4 _).mono ?_
            rintro en w3 ⟨rfl, b3⟩
            have hMr := hMr.below b3
            have hbr := below_step hbr b3
            clear ma b3
            have HM2 := Lib.hid hMr
            have HB2 := Lib.hid hbr
            clear hMr hbr
            go_wp2_with fail
            go_roundw
            case rel => exact ⟨j + 1, by omega, by rw [HS.out, ← hMM.out]; simp only [ByteArray.mk_append_mk]; simp [encFld, encI], by go_num, HM2.out, HB2.out⟩
            case measure => simp [intOf]; omega
        | fS =>
          as_aux_lemma =>
            have ma := hMr.cell (i := 5) (v := .int .i64 seq) rfl
            have e1 := (enc_len (zig seq)).2
            have zz : ¬ 9223372036854775807 < T.length + (enc (zig seq)).length := by omega
            go_wp2_with fail
            refine (qwnum_any seq q5 _).mono ?_
            rintro en w3 ⟨rfl, b3⟩
            have hMr := hMr.below b3
            have hbr := below_step hbr b3
            clear ma b3
            have HM2 := Lib.hid hMr
            have HB2 := Lib.hid hbr
            clear hMr hbr
            go_wp2_with fail
            go_roundw
            case rel => exact ⟨j + 1, by omega, by rw [HS.out, ← hMM.out]; simp only [ByteArray.mk_append_mk]; simp [encFld, encI], by go_num, HM2.out, HB2.out⟩
            case measure => simp [intOf]; omega
        | fU =>
          as_aux_lemma =>
            have ma := hMr.cell (i := 9) (v := .int .i64 un) rfl
            have e1 := (enc_len (zig un)).2
            have zz : ¬ 9223372036854775807 < T.length + (enc (zig un)).length := by omega
            go_wp2_with fail
            refine (qwnum_any un q9 _).mono ?_
            rintro en w3 ⟨rfl, b3⟩
            have hMr := hMr.below b3
            have hbr := below_step hbr b3
            clear ma b3
            have HM2 := Lib.hid hMr
            have HB2 := Lib.hid hbr
            clear hMr hbr
            go_wp2_with fail
            go_roundw
            case rel => exact ⟨j + 1, by omega, by rw [HS.out, ← hMM.out]; simp only [ByteArray.mk_append_mk]; simp [encFld, encI], by go_num, HM2.out, HB2.out⟩
            case measure => simp [intOf]; omega
        | fL =>
          as_aux_lemma =>
            have ma := hMr.cell (i := 27) (v := .int .i64 life) rfl
            have e1 := (enc_len (zig life)).2
            have zz : ¬ 9223372036854775807 < T.length + (enc (zig life)).length := by omega
            go_wp2_with fail
            refine (qwnum_any life q13 _).mono ?_
            rintro en w3 ⟨rfl, b3⟩
            have hMr := hMr.below b3
            have hbr := below_step hbr b3
            clear ma b3
            have HM2 := Lib.hid hMr
            have HB2 := Lib.hid hbr
            clear hMr hbr
            go_wp2_with fail
            go_roundw
            case rel => exact ⟨j + 1, by omega, by rw [HS.out, ← hMM.out]; simp only [ByteArray.mk_append_mk]; simp [encFld, encI], by go_num, HM2.out, HB2.out⟩
            case measure => simp [intOf]; omega
        | fQ =>
          as_aux_lemma =>
            have ma := hMr.cell (i := 6) (v := .int .i64 req) rfl
            have e1 := (enc_len (zig req)).2
            have zz : ¬ 9223372036854775807 < T.length + (enc (zig req)).length := by omega
            go_wp2_with fail
            refine (qwnum_any req q6 _).mono ?_
            rintro en w3 ⟨rfl, b3⟩
            have hMr := hMr.below b3
            have hbr := below_step hbr b3
            clear ma b3
            have HM2 := Lib.hid hMr
            have HB2 := Lib.hid hbr
            clear hMr hbr
            go_wp2_with fail
            go_roundw
            case rel => exact ⟨j + 1, by omega, by rw [HS.out, ← hMM.out]; simp only [ByteArray.mk_append_mk]; simp [encFld, encI], by go_num, HM2.out, HB2.out⟩
            case measure => simp [intOf]; omega
        | fI =>
          as_aux_lemma =>
            have ma := hMr.cell (i := 8) (v := .int .i64 id) rfl
            have e1 := (enc_len (zig id)).2
            have zz : ¬ 9223372036854775807 < T.length + (enc (zig id)).length := by omega
            go_wp2_with fail
            refine (qwnum_any id q8 _).mono ?_
            rintro en w3 ⟨rfl, b3⟩
            have hMr := hMr.below b3
            have hbr := below_step hbr b3
            clear ma b3
            have HM2 := Lib.hid hMr
            have HB2 := Lib.hid hbr
            clear hMr hbr
            go_wp2_with fail
            go_roundw
            case rel => exact ⟨j + 1, by omega, by rw [HS.out, ← hMM.out]; simp only [ByteArray.mk_append_mk]; simp [encFld, encI], by go_num, HM2.out, HB2.out⟩
            case measure => simp [intOf]; omega
        | fT =>
          as_aux_lemma =>
            have ma := hMr.cell (i := 7) (v := .int .i64 cl) rfl
            have e1 := (enc_len (zig cl)).2
            have zz : ¬ 9223372036854775807 < T.length + (enc (zig cl)).length := by omega
            go_wp2_with fail
            refine (qwnum_any cl q7 _).mono ?_
            rintro en w3 ⟨rfl, b3⟩
            have hMr := hMr.below b3
            have hbr := below_step hbr b3
            clear ma b3
            have HM2 := Lib.hid hMr
            have HB2 := Lib.hid hbr
            clear hMr hbr
            go_wp2_with fail
            go_roundw
            case rel => exact ⟨j + 1, by omega, by rw [HS.out, ← hMM.out]; simp only [ByteArray.mk_append_mk]; simp [encFld, encI], by go_num, HM2.out, HB2.out⟩
            case measure => simp [intOf]; omega
        | fF =>
          as_aux_lemma =>
            have ma2 := hMr.cell (i := 2) (v := .int .i64 fn) rfl
            have ma3 := hMr.cell (i := 3) (v := .int .i64 fl) rfl
            have e0 := (enc_len (zig fn)).2
            have e1 := (enc_len (zig fl)).2
            have z1 : ¬ 9223372036854775807 < (enc (zig fn)).length + (enc (zig fl)).length := by omega
            have zz : ¬ 9223372036854775807 < T.length + ((enc (zig fn)).length + (enc (zig fl)).length) := by omega
            go_upto_region 8 with (fail)
            go_region_held (fun w' => w'.cell? ⟨m, 2, none⟩ = some (.int .i64 fn) ∧ w'.cell? ⟨m, 3, none⟩ = some (.int .i64 fl))
              (go_keep)
              (first | (go_at_call 47; refine (qwnum_any fn q2 _).mono ?_; rintro en wz ⟨rfl, bz⟩; have hMr : BlkAt wz m 40 _ := BlkAt.below (by first | exact hMr | exact hMr.drew) bz; have hbr : Below w.heap.size w wz := below_step (by first | exact hbr | exact below_drewN hbr 1) bz; have ma2 := hMr.cell (i := 2) (v := .int .i64 fn) rfl; have ma3 := hMr.cell (i := 3) (v := .int .i64 fl) rfl; clear bz) | (go_at_call 47; refine (qwnum_any fl q3 _).mono ?_; rintro en wz ⟨rfl, bz⟩; have hMr : BlkAt wz m 40 _ := BlkAt.below (by first | exact hMr | exact hMr.drew) bz; have hbr : Below w.heap.size w wz := below_step (by first | exact hbr | exact below_drewN hbr 1) bz; have ma2 := hMr.cell (i := 2) (v := .int .i64 fn) rfl; have ma3 := hMr.cell (i := 3) (v := .int .i64 fl) rfl; clear bz))
            clear ma2 ma3 z1 zz
            have HM2 := Lib.hid hMr
            have HB2 := Lib.hid hbr
            clear hMr hbr
            go_wp2_with fail
            go_roundw
            case rel => exact ⟨j + 1, by omega, by rw [HS.out, ← hMM.out]; simp only [ByteArray.mk_append_mk]; simp [encFld, encI], by go_num, HM2.out, HB2.out⟩
            case measure => simp [intOf]; omega
        | fR =>
          as_aux_lemma =>
            have ma21 := hMr.cell (i := 21) (v := .int .i64 re) rfl
            have ma22 := hMr.cell (i := 22) (v := .int .i64 rg) rfl
            have ma23 := hMr.cell (i := 23) (v := .int .i64 rd) rfl
            have e0 := (enc_len (zig re)).2
            have e1 := (enc_len (zig rg)).2
            have e2 := (enc_len (zig rd)).2
            have z1 : ¬ 9223372036854775807 < (enc (zig re)).length + (enc (zig rg)).length := by omega
            have z2 : ¬ 9223372036854775807 < (enc (zig re)).length + (enc (zig rg)).length + (enc (zig rd)).length := by omega
            have zz : ¬ 9223372036854775807 < T.length + ((enc (zig re)).length + (enc (zig rg)).length + (enc (zig rd)).length) := by omega
            go_upto_region 28 with (fail)
            go_region_held (fun w' => w'.cell? ⟨m, 21, none⟩ = some (.int .i64 re) ∧ w'.cell? ⟨m, 22, none⟩ = some (.int .i64 rg) ∧ w'.cell? ⟨m, 23, none⟩ = some (.int .i64 rd))
              (go_keep)
              (first | (go_at_call 47; refine (qwnum_any re q10 _).mono ?_; rintro en wz ⟨rfl, bz⟩; have hMr : BlkAt wz m 40 _ := BlkAt.below (by first | exact hMr | exact hMr.drew) bz; have hbr : Below w.heap.size w wz := below_step (by first | exact hbr | exact below_drewN hbr 1) bz; have ma21 := hMr.cell (i := 21) (v := .int .i64 re) rfl; have ma22 := hMr.cell (i := 22) (v := .int .i64 rg) rfl; have ma23 := hMr.cell (i := 23) (v := .int .i64 rd) rfl; clear bz) | (go_at_call 47; refine (qwnum_any rg q11 _).mono ?_; rintro en wz ⟨rfl, bz⟩; have hMr : BlkAt wz m 40 _ := BlkAt.below (by first | exact hMr | exact hMr.drew) bz; have hbr : Below w.heap.size w wz := below_step (by first | exact hbr | exact below_drewN hbr 1) bz; have ma21 := hMr.cell (i := 21) (v := .int .i64 re) rfl; have ma22 := hMr.cell (i := 22) (v := .int .i64 rg) rfl; have ma23 := hMr.cell (i := 23) (v := .int .i64 rd) rfl; clear bz) | (go_at_call 47; refine (qwnum_any rd q12 _).mono ?_; rintro en wz ⟨rfl, bz⟩; have hMr : BlkAt wz m 40 _ := BlkAt.below (by first | exact hMr | exact hMr.drew) bz; have hbr : Below w.heap.size w wz := below_step (by first | exact hbr | exact below_drewN hbr 1) bz; have ma21 := hMr.cell (i := 21) (v := .int .i64 re) rfl; have ma22 := hMr.cell (i := 22) (v := .int .i64 rg) rfl; have ma23 := hMr.cell (i := 23) (v := .int .i64 rd) rfl; clear bz))
            clear ma21 ma22 ma23 z1 z2 zz
            have HM2 := Lib.hid hMr
            have HB2 := Lib.hid hbr
            clear hMr hbr
            go_wp2_with fail
            go_roundw
            case rel => exact ⟨j + 1, by omega, by rw [HS.out, ← hMM.out]; simp only [ByteArray.mk_append_mk]; simp [encFld, encI], by go_num, HM2.out, HB2.out⟩
            case measure => simp [intOf]; omega
        | fG =>
          as_aux_lemma =>
            have zz : ¬ 9223372036854775807 < T.length + 1 := by omega
            cases flag with
            | true =>
              have ma := hMr.cell (i := 10) (v := .bool true) rfl
              go_wp2_with fail
              go_roundw
              case rel => exact ⟨j + 1, by omega, by rw [HS.out, ← hMM.out]; rw [show (⟨#[1]⟩ : ByteArray) = ⟨[(1 : UInt8)].toArray⟩ from rfl, str_join]; rfl, by go_num, hMr, hbr⟩
              case measure => simp [intOf]; omega
            | false =>
              have ma := hMr.cell (i := 10) (v := .bool false) rfl
              go_wp2_with fail
              go_roundw
              case rel => exact ⟨j + 1, by omega, by rw [HS.out, ← hMM.out]; rw [show (⟨#[0]⟩ : ByteArray) = ⟨[(0 : UInt8)].toArray⟩ from rfl, str_join]; rfl, by go_num, hMr, hbr⟩
              case measure => simp [intOf]; omega
        | fC =>
          as_aux_lemma =>
            have ma := hMr.cell (i := 24) (v := .int .i64 ce) rfl
            have mb := hMr.cell (i := 25) (v := .slice va ch.length vc) rfl
            have e1 := HLF.out fC
            rw [← hMM.out] at e1
            have zz : ¬ 9223372036854775807 < T.length + (encConf ⟨ce, ch⟩).length := by
              have : (encConf ⟨ce, ch⟩).length ≤ 100000 := e1
              omega
            go_wp2_with fail
            refine (qcprint_any (by exact hv1.below hbr) ce hcl).mono ?_
            rintro en w3 ⟨rfl, b3⟩
            have hMr := hMr.below b3
            have hbr := below_step hbr b3
            clear ma mb b3 e1
            have HM2 := Lib.hid hMr
            have HB2 := Lib.hid hbr
            clear hMr hbr
            go_wp2_with fail
            go_roundw
            case rel => exact ⟨j + 1, by omega, by rw [HS.out, ← hMM.out]; rw [str_join]; rfl, by go_num, HM2.out, HB2.out⟩
            case measure => simp [intOf]; omega
        | fO =>
          as_aux_lemma =>
            have mo11 := hMr.cell (i := 11) (v := .int .i64 ok) rfl
            have mo12 := hMr.cell (i := 12) (v := .int .i64 a1) rfl
            have mo13 := hMr.cell (i := 13) (v := .int .i64 a2) rfl
            have mo14 := hMr.cell (i := 14) (v := .int .i64 a3) rfl
            have mo15 := hMr.cell (i := 15) (v := .int .i64 a4) rfl
            have mo16 := hMr.cell (i := 16) (v := .int .i64 a5) rfl
            have mo17 := hMr.cell (i := 17) (v := .int .i64 a6) rfl
            have mo18 := hMr.cell (i := 18) (v := .int .i64 a7) rfl
            have mo19 := hMr.cell (i := 19) (v := .int .i64 a8) rfl
            have mo20 := hMr.cell (i := 20) (v := .string ⟨oc.toArray⟩) rfl
            have e1 := HLF.out fO
            rw [← hMM.out] at e1
            have zz : ¬ 9223372036854775807 < T.length + (encOp ⟨ok, [a1, a2, a3, a4, a5, a6, a7, a8], oc⟩).length := by
              have : (encOp ⟨ok, [a1, a2, a3, a4, a5, a6, a7, a8], oc⟩).length ≤ 100000 := e1
              omega
            go_wp2_with fail
            refine (qprint_any (o := ⟨ok, [a1, a2, a3, a4, a5, a6, a7, a8], oc⟩) hoo hocl _).mono ?_
            rintro en w3 ⟨rfl, b3⟩
            have hMr := hMr.below b3
            have hbr := below_step hbr b3
            clear mo11 mo12 mo13 mo14 mo15 mo16 mo17 mo18 mo19 mo20 b3 e1
            have HM2 := Lib.hid hMr
            have HB2 := Lib.hid hbr
            clear hMr hbr
            go_wp2_with fail
            go_roundw
            case rel => exact ⟨j + 1, by omega, by rw [HS.out, ← hMM.out]; rw [str_join]; rfl, by go_num, HM2.out, HB2.out⟩
            case measure => simp [intOf]; omega
        | fX =>
          as_aux_lemma =>
            have ma := hMr.cell (i := 26) (v := .slice ua fires.length uc) rfl
            have e1 := (enc_len fires.length).2
            have hu : IntKind.u64.wrap (fires.length : Int) = (fires.length : Int) := by rw [IntKind.wrap_u64]; omega
            have HU := Lib.hid hu
            have zz : ¬ 9223372036854775807 < T.length + (enc fires.length).length := by omega
            clear hu
            go_upto_region 34 with (fail)
            have hu := HU.out
            go_wp2_with fail
            refine (quint_any fires.length (by unfold F64; omega) _).mono ?_
            rintro en w3 ⟨rfl, b3⟩
            have hMr := hMr.below b3
            have hbr := below_step hbr b3
            have hfv := hv2.below hbr
            have hTQ : Hid (T.length + (enc fires.length).length ≤ 900000) := Lib.hid (by omega)
            clear ma b3 hu
            obtain ⟨T2, hT2⟩ : ∃ T2, T2 = T ++ enc fires.length := ⟨_, rfl⟩
            have HT2l : T2.length ≤ 900000 := by rw [hT2, List.length_append]; exact hTQ.out
            have HT2 := Lib.hid hT2
            have HA2 : Hid ((⟨T.toArray⟩ : ByteArray) ++ ⟨(enc fires.length).toArray⟩ = ⟨T2.toArray⟩) := Lib.hid (by rw [str_join, hT2])
            clear hT2 hTQ
            have hMi0 := hMr
            have hbi0 := hbr
            clear hMr hbr
            have ma := hMi0.cell (i := 26) (v := .slice ua fires.length uc) rfl
            go_upto_region 35 with (fail)
            rw [HA2.out]
            clear zz e1
            go_wp2_with fail
            go_loopw [3, 6] (fun s q wr => ∃ i : Nat, i ≤ fires.length ∧ s = .string ⟨(T2 ++ encX (fires.take i)).toArray⟩ ∧ q = .int .i64 i ∧ BlkAt wr m 40 [.int .i64 k, .int .i64 dst, .int .i64 fn, .int .i64 fl, .int .i64 ep, .int .i64 seq, .int .i64 req, .int .i64 cl, .int .i64 id, .int .i64 un, .bool flag, .int .i64 ok, .int .i64 a1, .int .i64 a2, .int .i64 a3, .int .i64 a4, .int .i64 a5, .int .i64 a6, .int .i64 a7, .int .i64 a8, .string ⟨oc.toArray⟩, .int .i64 re, .int .i64 rg, .int .i64 rd, .int .i64 ce, .slice va ch.length vc, .slice ua fires.length uc, .int .i64 life] ∧ Below w.heap.size w wr) (fun _ q _ => fires.length - (intOf q).toNat)
            case atStart => exact ⟨0, Nat.zero_le _, by simp [encX], rfl, hMi0, hbi0⟩
            case round =>
              obtain ⟨i, hi, rfl, rfl, hMi, hbi⟩ := hrel
              clear hMi0 hbi0 ma hfv
              by_cases hlt2 : i < fires.length
              · obtain ⟨f, hfk⟩ : ∃ f, fires[i]? = some f := ⟨_, List.getElem?_eq_getElem hlt2⟩
                obtain ⟨aa, cc, haa, hlm, hs⟩ := hv2.below hbi
                obtain ⟨rfl, rfl⟩ : ua = aa ∧ uc = cc := by simpa using haa
                obtain ⟨F, off, rfl, hFB, hc⟩ := hs (by omega)
                have HX := Lib.hid (encX_snoc hfk)
                have hWf := hok.out.fires f (by rw [← hMM.out]; exact List.mem_of_getElem? hfk)
                have hlx := encX_len (fires.take i)
                have hlt6 : (fires.take i).length ≤ 8 := by rw [List.length_take]; omega
                have hc := hc i f hfk
                obtain ⟨x1, x2, x3, x4, x5, x6⟩ := f
                have g0 := hc 0 x1 rfl
                have g1 := hc 1 x2 rfl
                have g2 := hc 2 x3 rfl
                have g3 := hc 3 x4 rfl
                have g4 := hc 4 x5 rfl
                have g5 := hc 5 x6 rfl
                simp only [Nat.add_zero] at g0
                have HTL : Hid ((T2 ++ encX (fires.take i)).length ≤ 1000000) := Lib.hid (by rw [List.length_append]; omega)
                clear hc hs haa hlm hfk hlx hlt6
                generalize hT3 : T2 ++ encX (fires.take i) = T3 at *
                have HT3 := Lib.hid hT3
                clear hT3
                have ma := hMi.cell (i := 26) (v := .slice (some ⟨F, off, none⟩) fires.length uc) rfl
                go_upto_region 39 with (fail)
                change Code.wp _ _ _ _ (wr.alloc (.cells #[.int .i64 x1, .int .i64 x2, .int .i64 x3, .int .i64 x4, .int .i64 x5, .int .i64 x6] 99))
                have hQ : BlkAt (wr.alloc (.cells #[.int .i64 x1, .int .i64 x2, .int .i64 x3, .int .i64 x4, .int .i64 x5, .int .i64 x6] 99)) wr.heap.size 99 [.int .i64 x1, .int .i64 x2, .int .i64 x3, .int .i64 x4, .int .i64 x5, .int .i64 x6] := BlkAt.new wr 99 [.int .i64 x1, .int .i64 x2, .int .i64 x3, .int .i64 x4, .int .i64 x5, .int .i64 x6]
                have hMi := hMi.alloc (.cells #[.int .i64 x1, .int .i64 x2, .int .i64 x3, .int .i64 x4, .int .i64 x5, .int .i64 x6] 99)
                have hbi := hbi.alloc hbi.size (.cells #[.int .i64 x1, .int .i64 x2, .int .i64 x3, .int .i64 x4, .int .i64 x5, .int .i64 x6] 99)
                clear g0 g1 g2 g3 g4 g5 ma hFB
                generalize wr.alloc (.cells #[.int .i64 x1, .int .i64 x2, .int .i64 x3, .int .i64 x4, .int .i64 x5, .int .i64 x6] 99) = wj at *
                generalize wr.heap.size = Q at *
                have f0 := hQ.cell (i := 0) (v := .int .i64 x1) rfl
                have f1 := hQ.cell (i := 1) (v := .int .i64 x2) rfl
                have f2 := hQ.cell (i := 2) (v := .int .i64 x3) rfl
                have f3 := hQ.cell (i := 3) (v := .int .i64 x4) rfl
                have f4 := hQ.cell (i := 4) (v := .int .i64 x5) rfl
                have f5 := hQ.cell (i := 5) (v := .int .i64 x6) rfl
                have e1 := (enc_len (zig x1)).2
                have e2 := (enc_len (zig x2)).2
                have e3 := (enc_len (zig x3)).2
                have e4 := (enc_len (zig x4)).2
                have e5 := (enc_len (zig x5)).2
                have e6 := (enc_len (zig x6)).2
                have htl := HTL.out
                have z1 : ¬ 9223372036854775807 < (enc (zig x1)).length + (enc (zig x2)).length := by omega
                have z2 : ¬ 9223372036854775807 < (enc (zig x1)).length + (enc (zig x2)).length + (enc (zig x3)).length := by omega
                have z3 : ¬ 9223372036854775807 < (enc (zig x1)).length + (enc (zig x2)).length + (enc (zig x3)).length + (enc (zig x4)).length := by omega
                have z4 : ¬ 9223372036854775807 < (enc (zig x1)).length + (enc (zig x2)).length + (enc (zig x3)).length + (enc (zig x4)).length + (enc (zig x5)).length := by omega
                have z5 : ¬ 9223372036854775807 < (enc (zig x1)).length + (enc (zig x2)).length + (enc (zig x3)).length + (enc (zig x4)).length + (enc (zig x5)).length + (enc (zig x6)).length := by omega
                have zz : ¬ 9223372036854775807 < T3.length + ((enc (zig x1)).length + (enc (zig x2)).length + (enc (zig x3)).length + (enc (zig x4)).length + (enc (zig x5)).length + (enc (zig x6)).length) := by omega
                go_region_held (fun w' => w'.cell? ⟨Q, 0, none⟩ = some (.int .i64 x1) ∧ w'.cell? ⟨Q, 1, none⟩ = some (.int .i64 x2) ∧ w'.cell? ⟨Q, 2, none⟩ = some (.int .i64 x3) ∧ w'.cell? ⟨Q, 3, none⟩ = some (.int .i64 x4) ∧ w'.cell? ⟨Q, 4, none⟩ = some (.int .i64 x5) ∧ w'.cell? ⟨Q, 5, none⟩ = some (.int .i64 x6))
                  (go_keep)
                  (first | (go_at_call 47; refine (qwnum_any x1 (hWf x1 (by simp [FireV.nums])) _).mono ?_; rintro en wz ⟨rfl, bz⟩; have hQ : BlkAt wz Q 99 _ := BlkAt.below (by first | exact hQ | exact hQ.drew) bz; have hMi : BlkAt wz m 40 _ := BlkAt.below (by first | exact hMi | exact hMi.drew) bz; have hbi : Below w.heap.size w wz := below_step (by first | exact hbi | exact below_drewN hbi 1) bz; have f0 := hQ.cell (i := 0) (v := .int .i64 x1) rfl; have f1 := hQ.cell (i := 1) (v := .int .i64 x2) rfl; have f2 := hQ.cell (i := 2) (v := .int .i64 x3) rfl; have f3 := hQ.cell (i := 3) (v := .int .i64 x4) rfl; have f4 := hQ.cell (i := 4) (v := .int .i64 x5) rfl; have f5 := hQ.cell (i := 5) (v := .int .i64 x6) rfl; clear bz) | (go_at_call 47; refine (qwnum_any x2 (hWf x2 (by simp [FireV.nums])) _).mono ?_; rintro en wz ⟨rfl, bz⟩; have hQ : BlkAt wz Q 99 _ := BlkAt.below (by first | exact hQ | exact hQ.drew) bz; have hMi : BlkAt wz m 40 _ := BlkAt.below (by first | exact hMi | exact hMi.drew) bz; have hbi : Below w.heap.size w wz := below_step (by first | exact hbi | exact below_drewN hbi 1) bz; have f0 := hQ.cell (i := 0) (v := .int .i64 x1) rfl; have f1 := hQ.cell (i := 1) (v := .int .i64 x2) rfl; have f2 := hQ.cell (i := 2) (v := .int .i64 x3) rfl; have f3 := hQ.cell (i := 3) (v := .int .i64 x4) rfl; have f4 := hQ.cell (i := 4) (v := .int .i64 x5) rfl; have f5 := hQ.cell (i := 5) (v := .int .i64 x6) rfl; clear bz) | (go_at_call 47; refine (qwnum_any x3 (hWf x3 (by simp [FireV.nums])) _).mono ?_; rintro en wz ⟨rfl, bz⟩; have hQ : BlkAt wz Q 99 _ := BlkAt.below (by first | exact hQ | exact hQ.drew) bz; have hMi : BlkAt wz m 40 _ := BlkAt.below (by first | exact hMi | exact hMi.drew) bz; have hbi : Below w.heap.size w wz := below_step (by first | exact hbi | exact below_drewN hbi 1) bz; have f0 := hQ.cell (i := 0) (v := .int .i64 x1) rfl; have f1 := hQ.cell (i := 1) (v := .int .i64 x2) rfl; have f2 := hQ.cell (i := 2) (v := .int .i64 x3) rfl; have f3 := hQ.cell (i := 3) (v := .int .i64 x4) rfl; have f4 := hQ.cell (i := 4) (v := .int .i64 x5) rfl; have f5 := hQ.cell (i := 5) (v := .int .i64 x6) rfl; clear bz) | (go_at_call 47; refine (qwnum_any x4 (hWf x4 (by simp [FireV.nums])) _).mono ?_; rintro en wz ⟨rfl, bz⟩; have hQ : BlkAt wz Q 99 _ := BlkAt.below (by first | exact hQ | exact hQ.drew) bz; have hMi : BlkAt wz m 40 _ := BlkAt.below (by first | exact hMi | exact hMi.drew) bz; have hbi : Below w.heap.size w wz := below_step (by first | exact hbi | exact below_drewN hbi 1) bz; have f0 := hQ.cell (i := 0) (v := .int .i64 x1) rfl; have f1 := hQ.cell (i := 1) (v := .int .i64 x2) rfl; have f2 := hQ.cell (i := 2) (v := .int .i64 x3) rfl; have f3 := hQ.cell (i := 3) (v := .int .i64 x4) rfl; have f4 := hQ.cell (i := 4) (v := .int .i64 x5) rfl; have f5 := hQ.cell (i := 5) (v := .int .i64 x6) rfl; clear bz) | (go_at_call 47; refine (qwnum_any x5 (hWf x5 (by simp [FireV.nums])) _).mono ?_; rintro en wz ⟨rfl, bz⟩; have hQ : BlkAt wz Q 99 _ := BlkAt.below (by first | exact hQ | exact hQ.drew) bz; have hMi : BlkAt wz m 40 _ := BlkAt.below (by first | exact hMi | exact hMi.drew) bz; have hbi : Below w.heap.size w wz := below_step (by first | exact hbi | exact below_drewN hbi 1) bz; have f0 := hQ.cell (i := 0) (v := .int .i64 x1) rfl; have f1 := hQ.cell (i := 1) (v := .int .i64 x2) rfl; have f2 := hQ.cell (i := 2) (v := .int .i64 x3) rfl; have f3 := hQ.cell (i := 3) (v := .int .i64 x4) rfl; have f4 := hQ.cell (i := 4) (v := .int .i64 x5) rfl; have f5 := hQ.cell (i := 5) (v := .int .i64 x6) rfl; clear bz) | (go_at_call 47; refine (qwnum_any x6 (hWf x6 (by simp [FireV.nums])) _).mono ?_; rintro en wz ⟨rfl, bz⟩; have hQ : BlkAt wz Q 99 _ := BlkAt.below (by first | exact hQ | exact hQ.drew) bz; have hMi : BlkAt wz m 40 _ := BlkAt.below (by first | exact hMi | exact hMi.drew) bz; have hbi : Below w.heap.size w wz := below_step (by first | exact hbi | exact below_drewN hbi 1) bz; have f0 := hQ.cell (i := 0) (v := .int .i64 x1) rfl; have f1 := hQ.cell (i := 1) (v := .int .i64 x2) rfl; have f2 := hQ.cell (i := 2) (v := .int .i64 x3) rfl; have f3 := hQ.cell (i := 3) (v := .int .i64 x4) rfl; have f4 := hQ.cell (i := 4) (v := .int .i64 x5) rfl; have f5 := hQ.cell (i := 5) (v := .int .i64 x6) rfl; clear bz))
                have HM2 := Lib.hid hMi
                have HB2 := Lib.hid hbi
                clear hMi hbi f0 f1 f2 f3 f4 f5 hQ z1 z2 z3 z4 z5 zz
                go_wp2_with fail
                go_roundw
                case rel => exact ⟨i + 1, by omega, by rw [HX.out, ← List.append_assoc, HT3.out]; simp only [ByteArray.mk_append_mk]; simp [FireV.nums, encI], by go_num, HM2.out, HB2.out⟩
                case measure => simp [intOf]; omega
              · obtain rfl : i = fires.length := by omega
                have ma := hMi.cell (i := 26) (v := .slice ua fires.length uc) rfl
                have HM2 := Lib.hid hMi
                have HB2 := Lib.hid hbi
                clear hMi hbi
                go_wp2_with fail
                go_roundw
                case rel => exact ⟨j + 1, by omega, by rw [HS.out, ← hMM.out, List.take_length, HT2.out, List.append_assoc]; rfl, by go_num, HM2.out, HB2.out⟩
                case measure => simp [intOf]; omega
      · obtain rfl : j = Fs.length := by omega
        rw [List.take_length, ← HTX.out]
        have hTl : (textOf M).length ≤ 1000000 := by
          have h1 := HFL.out Fs
          rw [HTX.out, List.length_append]
          omega
        have HB2 := Lib.hid hbr
        clear hbr hMr
        go_wp2_with fail
        refine (qframe_any _ hTl _).mono ?_
        rintro en w9 ⟨rfl, b9⟩
        have hb9 := below_step HB2.out b9
        go_wp2_with fail
        go_ret
        exact ⟨rfl, hb9⟩
theorem qwprint_any {w : World} {M : MsgV} {v : Value} (hv : M.At w v) (hok : MOk M) (hs : MSmall M) (hf8 : M.fires.length ≤ 8) (hk : 1 ≤ M.kind ∧ M.kind ≤ 15) :
    Calls Tryz.prog 35 #[v] w fun en w' => en = .returned (.string ⟨(frame (textOf M)).toArray⟩) ∧ Below w.heap.size w w' := by
  have hop := hok.op.1
  obtain ⟨v1, v2, rfl, ⟨va, vc, rfl, hc⟩, ⟨ua, uc, rfl, hf⟩⟩ := hv
  obtain ⟨k, dst, fn, fl, ep, seq, req, cl, id, un, flag, op, re, rg, rd, cf, fires, life⟩ := M
  obtain ⟨ok, ov, oc⟩ := op
  obtain ⟨a1, a2, a3, a4, a5, a6, a7, a8, rfl⟩ := list8 hop
  obtain ⟨ce, ch⟩ := cf
  exact qwprint_lit ⟨va, vc, rfl, hc⟩ ⟨ua, uc, rfl, hf⟩ hk hf8 rfl hok hs
end Go.Proofs.YtnaabaahfjklhaaGreat
