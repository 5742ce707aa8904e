/- MasterNil: for every setup, message and number the law answers true. No condition. -/
import Derived.Test.YtomfmejodmfioaaGreatMstOpen
namespace Go.Proofs.YtomfmejodmfioaaGreat
open Go.RowKit Go.Maps Go.ChangeShapes Go.WideShapes Go.Joins Go.Deep
set_option linter.unusedVariables false

set_option maxRecDepth 100000 in
set_option maxHeartbeats 8000000 in

theorem MasterNil_go (s : SetV) (ms : List Value) (hlen : ms.length = 28) {n : Int} (hn : W64 n) (w : World) :
    Calls Tryz.prog 6 #[.agg (setC7 s).toArray, .agg ms.toArray, .int .i64 n] w fun e w' => e = .returned (.bool true) ∧ Below w.heap.size w w' := by
  have hfd : ∀ w : World, (Instr.field 35 (.agg #[.int .i64 0, .slice none 0 0]) 0).run Tryz.prog w = .ok (.int .i64 0) w := fun w => by rfl
  have hM := BlkAt.newAt (w := w.alloc (.cells (setC7 s).toArray 23)) (n := w.heap.size + 1) (by simp) 58 ms
  have hS := (BlkAt.new w 23 (setC7 s)).alloc (.cells ms.toArray 58)
  have hb : Below w.heap.size w ((w.alloc (.cells (setC7 s).toArray 23)).alloc (.cells ms.toArray 58)) := ((Below.refl w.heap.size w).alloc (Nat.le_refl _) _).alloc (by simp) _
  go_enter Tryz.func6, Tryz.ntmps6
  go_upto_region 2 with (fail)
  change Code.wp _ _ _ _ ((w.alloc (.cells (setC7 s).toArray 23)).alloc (.cells ms.toArray 58))
  generalize (w.alloc (.cells (setC7 s).toArray 23)).alloc (.cells ms.toArray 58) = W at *
  obtain ⟨sb, hsb⟩ : ∃ sb, sb = w.heap.size := ⟨_, rfl⟩
  obtain ⟨mb, hmb⟩ : ∃ mb, mb = w.heap.size + 1 := ⟨_, rfl⟩
  rw [← hmb] at hM
  rw [← hsb] at hS
  rw [← hmb, ← hsb]
  have HWS := Lib.hid hb.size
  clear hsb hmb
  go_wp2_with fail
  refine (msuspect_nil n _).mono ?_
  rintro en w2 ⟨rfl, rfl⟩
  go_wp2_with fail
  refine (mfall_nil n n _).mono ?_
  rintro en w3 ⟨rfl, b3⟩
  have hSq := hS.below b3
  clear hS
  have hS := hSq
  clear hSq
  have hMq := hM.below b3
  clear hM
  have hM := hMq
  clear hMq
  have hbq := below_step hb b3
  clear hb
  have hb := hbq
  clear hbq b3
  go_wp2_with fail
  refine (mwants_nil n _).mono ?_
  rintro en w4 ⟨A, cap, rfl, hC, b4⟩
  simp only [List.length_nil] at hC
  have hSq := hS.below b4
  clear hS
  have hS := hSq
  clear hSq
  have hMq := hM.below b4
  clear hM
  have hM := hMq
  clear hMq
  have hbq := below_step hb b4
  clear hb
  have hb := hbq
  clear hbq b4
  clear hC
  simp only [List.length_nil]
  go_upto_region 5 with (fail)
  have hZ := BlkAt.new w4 35 [.int .i64 0, .slice A 0 cap]
  have hSq := hS.below ((Below.refl _ _).alloc (Nat.le_refl _) (.cells #[.int .i64 0, .slice A 0 cap] 35))
  clear hS
  have hS := hSq
  clear hSq
  have hMq := hM.below ((Below.refl _ _).alloc (Nat.le_refl _) (.cells #[.int .i64 0, .slice A 0 cap] 35))
  clear hM
  have hM := hMq
  clear hMq
  have hbq := hb.alloc hb.size (.cells #[.int .i64 0, .slice A 0 cap] 35)
  clear hb
  have hb := hbq
  clear hbq
  change Code.wp _ _ _ _ (w4.alloc (.cells #[.int .i64 0, .slice A 0 cap] 35))
  change BlkAt (w4.alloc (.cells #[.int .i64 0, .slice A 0 cap] 35)) _ _ _ at hZ
  have hZn := (show w4.heap.size ≤ w4.heap.size from Nat.le_refl _)
  generalize w4.alloc (.cells #[.int .i64 0, .slice A 0 cap] 35) = w5 at *
  generalize w4.heap.size = Z at hZ ⊢
  clear hZn
  clear hZ
  have q0 : w5.cell? ⟨sb, 0, none⟩ = some (.int .i64 s.nodes) := hS.cell rfl
  have q1 : w5.cell? ⟨sb, 1, none⟩ = some (.int .i64 s.clients) := hS.cell rfl
  have q2 : w5.cell? ⟨sb, 2, none⟩ = some (.int .i64 s.timers) := hS.cell rfl
  have q3 : w5.cell? ⟨sb, 3, none⟩ = some (.int .i64 s.lease) := hS.cell rfl
  have q4 : w5.cell? ⟨sb, 4, none⟩ = some (.int .i64 s.suspect) := hS.cell rfl
  have q5 : w5.cell? ⟨sb, 5, none⟩ = some (.int .i64 s.skew) := hS.cell rfl
  have q6 : w5.cell? ⟨sb, 6, none⟩ = some (.int .i64 s.base) := hS.cell rfl
  go_wp2_with fail
  refine (mnew_nil s _).mono ?_
  rintro en w6 ⟨rfl, b6⟩
  clear q0 q1 q2 q3 q4 q5 q6
  have hSq := hS.below b6
  clear hS
  have hS := hSq
  clear hSq
  have hMq := hM.below b6
  clear hM
  have hM := hMq
  clear hMq
  have hbq := below_step hb b6
  clear hb
  have hb := hbq
  clear hbq b6
  have q0 : w6.cell? ⟨sb, 0, none⟩ = some (.int .i64 s.nodes) := hS.cell rfl
  have q1 : w6.cell? ⟨sb, 1, none⟩ = some (.int .i64 s.clients) := hS.cell rfl
  have q2 : w6.cell? ⟨sb, 2, none⟩ = some (.int .i64 s.timers) := hS.cell rfl
  have q3 : w6.cell? ⟨sb, 3, none⟩ = some (.int .i64 s.lease) := hS.cell rfl
  have q4 : w6.cell? ⟨sb, 4, none⟩ = some (.int .i64 s.suspect) := hS.cell rfl
  have q5 : w6.cell? ⟨sb, 5, none⟩ = some (.int .i64 s.skew) := hS.cell rfl
  have q6 : w6.cell? ⟨sb, 6, none⟩ = some (.int .i64 s.base) := hS.cell rfl
  go_wp2_with fail
  refine (mrecover_nil s n _).mono ?_
  rintro en w7 ⟨rfl, b7⟩
  clear q0 q1 q2 q3 q4 q5 q6
  have hSq := hS.below b7
  clear hS
  have hS := hSq
  clear hSq
  have hMq := hM.below b7
  clear hM
  have hM := hMq
  clear hMq
  have hbq := below_step hb b7
  clear hb
  have hb := hbq
  clear hbq b7
  go_upto_region 7 with (fail)
  have bd : Below w7.heap.size w7 w7.drew := below_drewN (Below.refl _ _) 1
  have hSq := hS.below bd
  clear hS
  have hS := hSq
  clear hSq
  have hMq := hM.below bd
  clear hM
  have hM := hMq
  clear hMq
  have hbq := below_step hb bd
  clear hb
  have hb := hbq
  clear hbq bd
  cases hmay : mayS s with
  | false =>
    refine wp_region_noPanic ?_
    refine wp_region_held_drew (S := (fun w' => w'.cell? ⟨sb, 0, none⟩ = some (.int .i64 s.nodes) ∧ w'.cell? ⟨sb, 1, none⟩ = some (.int .i64 s.clients) ∧ w'.cell? ⟨sb, 2, none⟩ = some (.int .i64 s.timers) ∧ w'.cell? ⟨sb, 3, none⟩ = some (.int .i64 s.lease) ∧ w'.cell? ⟨sb, 4, none⟩ = some (.int .i64 s.suspect) ∧ w'.cell? ⟨sb, 5, none⟩ = some (.int .i64 s.skew) ∧ w'.cell? ⟨sb, 6, none⟩ = some (.int .i64 s.base))) (by kernel_rfl) (by exact ⟨hS.cell rfl, hS.cell rfl, hS.cell rfl, hS.cell rfl, hS.cell rfl, hS.cell rfl, hS.cell rfl⟩) (fun hHeld => ?_)
    refine wpAnyH_take (i := 0) (oi := ?oq_1_0) (v := ?va_1_0) ?op_1_0 (by kernel_rfl) (by kernel_rfl) (by kernel_rfl) (fun _ _ _ h => h) ?yi_1_0 hHeld ?re_1_0
    case op_1_0 => (simp only [List.getElem?_toArray, List.getElem?_cons_zero]; rfl)
    case yi_1_0 =>
      refine Or.inl ⟨by rfl, ?_⟩
      intro w hSw
      try dsimp only at hSw
      go_simp
      all_goals with_reducible rfl
    try simp only [Act.put, List.setIfInBounds_toArray, List.set_cons_zero, List.set_cons_succ]
    refine wpAnyH_ready (rs := [1]) (by kernel_rfl) (by simp) (AllReadyH.cons (o := ?oq_1_1) ?op_1_1 (fun K hK => ?re_1_1) AllReadyH.nil)
    case op_1_1 => (simp only [List.getElem?_toArray, List.getElem?_cons_succ, List.getElem?_cons_zero]; rfl)
    go_simp
    go_at_call 24
    refine (new_log _).mono ?_
    rintro en y1 ⟨lb, rfl, hlog, bz⟩
    have hlbn : w.heap.size ≤ lb := Nat.le_trans hb.size hlog.1
    have hBB := hb.size
    have hSq := hS.below bz
    clear hS
    have hS := hSq
    clear hSq
    have hMq := hM.below bz
    clear hM
    have hM := hMq
    clear hMq
    have hbq := below_step hb bz
    clear hb
    have hb := hbq
    clear hbq bz
    refine hK.out _ _ (by exact ⟨hS.cell rfl, hS.cell rfl, hS.cell rfl, hS.cell rfl, hS.cell rfl, hS.cell rfl, hS.cell rfl⟩) (fun hHeld => ?_)
    clear hK K
    try simp only [Act.put, List.setIfInBounds_toArray, List.set_cons_zero, List.set_cons_succ]
    refine wpAnyH_ready (rs := [2]) (by kernel_rfl) (by simp) (AllReadyH.cons (o := ?oq_1_2) ?op_1_2 (fun K hK => ?re_1_2) AllReadyH.nil)
    case op_1_2 => (simp only [List.getElem?_toArray, List.getElem?_cons_succ, List.getElem?_cons_zero]; rfl)
    go_simp
    go_at_call 22
    refine (mnew_arg hmay lb _).mono ?_
    rintro en y2 ⟨rfl, bz⟩
    have hSq := hS.below bz
    clear hS
    have hS := hSq
    clear hSq
    have hMq := hM.below bz
    clear hM
    have hM := hMq
    clear hMq
    have hbq := below_step hb bz
    clear hb
    have hb := hbq
    clear hbq bz
    refine hK.out _ _ (by exact ⟨hS.cell rfl, hS.cell rfl, hS.cell rfl, hS.cell rfl, hS.cell rfl, hS.cell rfl, hS.cell rfl⟩) (fun hHeld => ?_)
    clear hK K
    try simp only [Act.put, List.setIfInBounds_toArray, List.set_cons_zero, List.set_cons_succ]
    refine wpAnyH_take (i := 3) (oi := ?oq_1_3) (v := ?va_1_3) ?op_1_3 (by kernel_rfl) (by kernel_rfl) (by kernel_rfl) (fun _ _ _ h => h) ?yi_1_3 hHeld ?re_1_3
    case op_1_3 => (simp only [List.getElem?_toArray, List.getElem?_cons_succ, List.getElem?_cons_zero]; rfl)
    case yi_1_3 =>
      refine Or.inl ⟨by rfl, ?_⟩
      intro w hSw
      try dsimp only at hSw
      go_simp
      all_goals with_reducible rfl
    try simp only [Act.put, List.setIfInBounds_toArray, List.set_cons_zero, List.set_cons_succ]
    refine wpAnyH_take (i := 4) (oi := ?oq_1_4) (v := ?va_1_4) ?op_1_4 (by kernel_rfl) (by kernel_rfl) (by kernel_rfl) (fun _ _ _ h => h) ?yi_1_4 hHeld ?re_1_4
    case op_1_4 => (simp only [List.getElem?_toArray, List.getElem?_cons_succ, List.getElem?_cons_zero]; rfl)
    case yi_1_4 =>
      refine Or.inl ⟨by rfl, ?_⟩
      intro w hSw
      try dsimp only at hSw
      go_simp
      all_goals with_reducible rfl
    try simp only [Act.put, List.setIfInBounds_toArray, List.set_cons_zero, List.set_cons_succ]
    refine wpAnyH_take (i := 5) (oi := ?oq_1_5) (v := ?va_1_5) ?op_1_5 (by kernel_rfl) (by kernel_rfl) (by kernel_rfl) (fun _ _ _ h => h) ?yi_1_5 hHeld ?re_1_5
    case op_1_5 => (simp only [List.getElem?_toArray, List.getElem?_cons_succ, List.getElem?_cons_zero]; rfl)
    case yi_1_5 =>
      refine Or.inl ⟨by rfl, ?_⟩
      intro w hSw
      try dsimp only at hSw
      go_simp
      all_goals with_reducible rfl
    try simp only [Act.put, List.setIfInBounds_toArray, List.set_cons_zero, List.set_cons_succ]
    refine wpAnyH_take (i := 6) (oi := ?oq_1_6) (v := ?va_1_6) ?op_1_6 (by kernel_rfl) (by kernel_rfl) (by kernel_rfl) (fun _ _ _ h => h) ?yi_1_6 hHeld ?re_1_6
    case op_1_6 => (simp only [List.getElem?_toArray, List.getElem?_cons_succ, List.getElem?_cons_zero]; rfl)
    case yi_1_6 =>
      refine Or.inl ⟨by rfl, ?_⟩
      intro w hSw
      try dsimp only at hSw
      go_simp
      all_goals with_reducible rfl
    try simp only [Act.put, List.setIfInBounds_toArray, List.set_cons_zero, List.set_cons_succ]
    refine wpAnyH_take (i := 7) (oi := ?oq_1_7) (v := ?va_1_7) ?op_1_7 (by kernel_rfl) (by kernel_rfl) (by kernel_rfl) (fun _ _ _ h => h) ?yi_1_7 hHeld ?re_1_7
    case op_1_7 => (simp only [List.getElem?_toArray, List.getElem?_cons_succ, List.getElem?_cons_zero]; rfl)
    case yi_1_7 =>
      refine Or.inl ⟨by rfl, ?_⟩
      intro w hSw
      try dsimp only at hSw
      go_simp
      all_goals with_reducible rfl
    try simp only [Act.put, List.setIfInBounds_toArray, List.set_cons_zero, List.set_cons_succ]
    refine wpAnyH_done (by kernel_rfl) ?_ _
    refine NoPanic.normal ?_
    clear hHeld hlog hlbn hBB
    go_upto_region 8 with (fail)
    have bd : Below y2.heap.size y2 y2.drew := below_drewN (Below.refl _ _) 1
    have hSq := hS.below bd
    clear hS
    have hS := hSq
    clear hSq
    have hMq := hM.below bd
    clear hM
    have hM := hMq
    clear hMq
    have hbq := below_step hb bd
    clear hb
    have hb := hbq
    clear hbq bd
    refine wp_region_noPanic ?_
    refine wp_region_held_drew (S := (fun w' => w'.cell? ⟨sb, 0, none⟩ = some (.int .i64 s.nodes) ∧ w'.cell? ⟨sb, 1, none⟩ = some (.int .i64 s.clients) ∧ w'.cell? ⟨sb, 2, none⟩ = some (.int .i64 s.timers) ∧ w'.cell? ⟨sb, 3, none⟩ = some (.int .i64 s.lease) ∧ w'.cell? ⟨sb, 4, none⟩ = some (.int .i64 s.suspect) ∧ w'.cell? ⟨sb, 5, none⟩ = some (.int .i64 s.skew) ∧ w'.cell? ⟨sb, 6, none⟩ = some (.int .i64 s.base))) (by kernel_rfl) (by exact ⟨hS.cell rfl, hS.cell rfl, hS.cell rfl, hS.cell rfl, hS.cell rfl, hS.cell rfl, hS.cell rfl⟩) (fun hHeld => ?_)
    refine wpAnyH_take (i := 0) (oi := ?oq_2_0) (v := ?va_2_0) ?op_2_0 (by kernel_rfl) (by kernel_rfl) (by kernel_rfl) (fun _ _ _ h => h) ?yi_2_0 hHeld ?re_2_0
    case op_2_0 => (simp only [List.getElem?_toArray, List.getElem?_cons_zero]; rfl)
    case yi_2_0 =>
      refine Or.inl ⟨by rfl, ?_⟩
      intro w hSw
      try dsimp only at hSw
      go_simp
      all_goals with_reducible rfl
    try simp only [Act.put, List.setIfInBounds_toArray, List.set_cons_zero, List.set_cons_succ]
    refine wpAnyH_take (i := 2) (oi := ?oq_2_2) (v := ?va_2_2) ?op_2_2 (by kernel_rfl) (by kernel_rfl) (by kernel_rfl) (fun _ _ _ h => h) ?yi_2_2 hHeld ?re_2_2
    case op_2_2 => (simp only [List.getElem?_toArray, List.getElem?_cons_succ, List.getElem?_cons_zero]; rfl)
    case yi_2_2 =>
      refine Or.inl ⟨by rfl, ?_⟩
      intro w hSw
      try dsimp only at hSw
      go_simp
      all_goals with_reducible rfl
    try simp only [Act.put, List.setIfInBounds_toArray, List.set_cons_zero, List.set_cons_succ]
    refine wpAnyH_ready (rs := [1]) (by kernel_rfl) (by simp) (AllReadyH.cons (o := ?oq_2_1) ?op_2_1 (fun K hK => ?re_2_1) AllReadyH.nil)
    case op_2_1 => (simp only [List.getElem?_toArray, List.getElem?_cons_succ, List.getElem?_cons_zero]; rfl)
    go_simp
    go_at_call 24
    refine (new_log _).mono ?_
    rintro en z1 ⟨lb, rfl, hlog, bz⟩
    have hlbn : w.heap.size ≤ lb := Nat.le_trans hb.size hlog.1
    have hBB := hb.size
    have hSq := hS.below bz
    clear hS
    have hS := hSq
    clear hSq
    have hMq := hM.below bz
    clear hM
    have hM := hMq
    clear hMq
    have hbq := below_step hb bz
    clear hb
    have hb := hbq
    clear hbq bz
    refine hK.out _ _ (by exact ⟨hS.cell rfl, hS.cell rfl, hS.cell rfl, hS.cell rfl, hS.cell rfl, hS.cell rfl, hS.cell rfl⟩) (fun hHeld => ?_)
    clear hK K
    try simp only [Act.put, List.setIfInBounds_toArray, List.set_cons_zero, List.set_cons_succ]
    refine wpAnyH_ready (rs := [3]) (by kernel_rfl) (by simp) (AllReadyH.cons (o := ?oq_2_3) ?op_2_3 (fun K hK => ?re_2_3) AllReadyH.nil)
    case op_2_3 => (simp only [List.getElem?_toArray, List.getElem?_cons_succ, List.getElem?_cons_zero]; rfl)
    go_simp
    go_at_call 23
    refine (mrecover_arg hmay lb n _).mono ?_
    rintro en z2 ⟨rfl, bz⟩
    have hSq := hS.below bz
    clear hS
    have hS := hSq
    clear hSq
    have hMq := hM.below bz
    clear hM
    have hM := hMq
    clear hMq
    have hbq := below_step hb bz
    clear hb
    have hb := hbq
    clear hbq bz
    refine hK.out _ _ (by exact ⟨hS.cell rfl, hS.cell rfl, hS.cell rfl, hS.cell rfl, hS.cell rfl, hS.cell rfl, hS.cell rfl⟩) (fun hHeld => ?_)
    clear hK K
    try simp only [Act.put, List.setIfInBounds_toArray, List.set_cons_zero, List.set_cons_succ]
    refine wpAnyH_take (i := 4) (oi := ?oq_2_4) (v := ?va_2_4) ?op_2_4 (by kernel_rfl) (by kernel_rfl) (by kernel_rfl) (fun _ _ _ h => h) ?yi_2_4 hHeld ?re_2_4
    case op_2_4 => (simp only [List.getElem?_toArray, List.getElem?_cons_succ, List.getElem?_cons_zero]; rfl)
    case yi_2_4 =>
      refine Or.inl ⟨by rfl, ?_⟩
      intro w hSw
      try dsimp only at hSw
      go_simp
      all_goals with_reducible rfl
    try simp only [Act.put, List.setIfInBounds_toArray, List.set_cons_zero, List.set_cons_succ]
    refine wpAnyH_take (i := 5) (oi := ?oq_2_5) (v := ?va_2_5) ?op_2_5 (by kernel_rfl) (by kernel_rfl) (by kernel_rfl) (fun _ _ _ h => h) ?yi_2_5 hHeld ?re_2_5
    case op_2_5 => (simp only [List.getElem?_toArray, List.getElem?_cons_succ, List.getElem?_cons_zero]; rfl)
    case yi_2_5 =>
      refine Or.inl ⟨by rfl, ?_⟩
      intro w hSw
      try dsimp only at hSw
      go_simp
      all_goals with_reducible rfl
    try simp only [Act.put, List.setIfInBounds_toArray, List.set_cons_zero, List.set_cons_succ]
    refine wpAnyH_take (i := 6) (oi := ?oq_2_6) (v := ?va_2_6) ?op_2_6 (by kernel_rfl) (by kernel_rfl) (by kernel_rfl) (fun _ _ _ h => h) ?yi_2_6 hHeld ?re_2_6
    case op_2_6 => (simp only [List.getElem?_toArray, List.getElem?_cons_succ, List.getElem?_cons_zero]; rfl)
    case yi_2_6 =>
      refine Or.inl ⟨by rfl, ?_⟩
      intro w hSw
      try dsimp only at hSw
      go_simp
      all_goals with_reducible rfl
    try simp only [Act.put, List.setIfInBounds_toArray, List.set_cons_zero, List.set_cons_succ]
    refine wpAnyH_take (i := 7) (oi := ?oq_2_7) (v := ?va_2_7) ?op_2_7 (by kernel_rfl) (by kernel_rfl) (by kernel_rfl) (fun _ _ _ h => h) ?yi_2_7 hHeld ?re_2_7
    case op_2_7 => (simp only [List.getElem?_toArray, List.getElem?_cons_succ, List.getElem?_cons_zero]; rfl)
    case yi_2_7 =>
      refine Or.inl ⟨by rfl, ?_⟩
      intro w hSw
      try dsimp only at hSw
      go_simp
      all_goals with_reducible rfl
    try simp only [Act.put, List.setIfInBounds_toArray, List.set_cons_zero, List.set_cons_succ]
    refine wpAnyH_take (i := 8) (oi := ?oq_2_8) (v := ?va_2_8) ?op_2_8 (by kernel_rfl) (by kernel_rfl) (by kernel_rfl) (fun _ _ _ h => h) ?yi_2_8 hHeld ?re_2_8
    case op_2_8 => (simp only [List.getElem?_toArray, List.getElem?_cons_succ, List.getElem?_cons_zero]; rfl)
    case yi_2_8 =>
      refine Or.inl ⟨by rfl, ?_⟩
      intro w hSw
      try dsimp only at hSw
      go_simp
      all_goals with_reducible rfl
    try simp only [Act.put, List.setIfInBounds_toArray, List.set_cons_zero, List.set_cons_succ]
    refine wpAnyH_done (by kernel_rfl) ?_ _
    refine NoPanic.normal ?_
    clear hHeld
    clear hlog hlbn hBB
    have q0 : z2.cell? ⟨sb, 0, none⟩ = some (.int .i64 s.nodes) := hS.cell rfl
    have q1 : z2.cell? ⟨sb, 1, none⟩ = some (.int .i64 s.clients) := hS.cell rfl
    have q2 : z2.cell? ⟨sb, 2, none⟩ = some (.int .i64 s.timers) := hS.cell rfl
    have q3 : z2.cell? ⟨sb, 3, none⟩ = some (.int .i64 s.lease) := hS.cell rfl
    have q4 : z2.cell? ⟨sb, 4, none⟩ = some (.int .i64 s.suspect) := hS.cell rfl
    have q5 : z2.cell? ⟨sb, 5, none⟩ = some (.int .i64 s.skew) := hS.cell rfl
    have q6 : z2.cell? ⟨sb, 6, none⟩ = some (.int .i64 s.base) := hS.cell rfl
    go_wp2_with fail
    refine (rmay_any s _).mono ?_
    rintro en w8 ⟨rfl, b8⟩
    rw [hmay]
    clear q0 q1 q2 q3 q4 q5 q6
    have hSq := hS.below b8
    clear hS
    have hS := hSq
    clear hSq
    have hMq := hM.below b8
    clear hM
    have hM := hMq
    clear hMq
    have hbq := below_step hb b8
    clear hb
    have hb := hbq
    clear hbq b8
    clear hS
    go_wp2_with fail
    refine (awake15_any _).mono ?_
    rintro en w9 ⟨rfl, b9⟩
    have hMq := hM.below b9
    clear hM
    have hM := hMq
    clear hMq
    have hbq := below_step hb b9
    clear hb
    have hb := hbq
    clear hbq b9
    go_wp2_with (refine mload_want (by rfl) 58 (.tmp 4) rfl mb 0 rfl ms _ hM.range Tryz.underlying58 rfl (by rw [hlen]; exact mmsg_info) ?_; simp only [Act.put, List.setIfInBounds_toArray, List.set_cons_zero, List.set_cons_succ])
    refine (mtake_nil ms n _).mono ?_
    rintro en w10 ⟨rfl, b10⟩
    clear hM

    have hbq := below_step hb b10
    clear hb
    have hb := hbq
    clear hbq b10
    go_wp2_with fail
    refine (mtick_nil n _).mono ?_
    rintro en w11 ⟨rfl, rfl⟩
    go_wp2_with fail
    refine (mconfig_nil _).mono ?_
    rintro en w12 ⟨rfl, b12⟩

    have hbq := below_step hb b12
    clear hb
    have hb := hbq
    clear hbq b12
    go_wp2_with fail
    go_ret
    exact ⟨rfl, hb⟩
  | true =>
    refine wp_region_noPanic ?_
    refine wp_region_held_drew (S := (fun w' => w'.cell? ⟨sb, 0, none⟩ = some (.int .i64 s.nodes) ∧ w'.cell? ⟨sb, 1, none⟩ = some (.int .i64 s.clients) ∧ w'.cell? ⟨sb, 2, none⟩ = some (.int .i64 s.timers) ∧ w'.cell? ⟨sb, 3, none⟩ = some (.int .i64 s.lease) ∧ w'.cell? ⟨sb, 4, none⟩ = some (.int .i64 s.suspect) ∧ w'.cell? ⟨sb, 5, none⟩ = some (.int .i64 s.skew) ∧ w'.cell? ⟨sb, 6, none⟩ = some (.int .i64 s.base))) (by kernel_rfl) (by exact ⟨hS.cell rfl, hS.cell rfl, hS.cell rfl, hS.cell rfl, hS.cell rfl, hS.cell rfl, hS.cell rfl⟩) (fun hHeld => ?_)
    refine wpAnyH_take (i := 0) (oi := ?oq_3_0) (v := ?va_3_0) ?op_3_0 (by kernel_rfl) (by kernel_rfl) (by kernel_rfl) (fun _ _ _ h => h) ?yi_3_0 hHeld ?re_3_0
    case op_3_0 => (simp only [List.getElem?_toArray, List.getElem?_cons_zero]; rfl)
    case yi_3_0 =>
      refine Or.inl ⟨by rfl, ?_⟩
      intro w hSw
      try dsimp only at hSw
      go_simp
      all_goals with_reducible rfl
    try simp only [Act.put, List.setIfInBounds_toArray, List.set_cons_zero, List.set_cons_succ]
    refine wpAnyH_ready (rs := [1]) (by kernel_rfl) (by simp) (AllReadyH.cons (o := ?oq_3_1) ?op_3_1 (fun K hK => ?re_3_1) AllReadyH.nil)
    case op_3_1 => (simp only [List.getElem?_toArray, List.getElem?_cons_succ, List.getElem?_cons_zero]; rfl)
    go_simp
    go_at_call 24
    refine (new_log _).mono ?_
    rintro en y1 ⟨lb, rfl, hlog, bz⟩
    have hlbn : w.heap.size ≤ lb := Nat.le_trans hb.size hlog.1
    have hBB := hb.size
    have hSq := hS.below bz
    clear hS
    have hS := hSq
    clear hSq
    have hMq := hM.below bz
    clear hM
    have hM := hMq
    clear hMq
    have hbq := below_step hb bz
    clear hb
    have hb := hbq
    clear hbq bz
    refine hK.out _ _ (by exact ⟨hS.cell rfl, hS.cell rfl, hS.cell rfl, hS.cell rfl, hS.cell rfl, hS.cell rfl, hS.cell rfl⟩) (fun hHeld => ?_)
    clear hK K
    try simp only [Act.put, List.setIfInBounds_toArray, List.set_cons_zero, List.set_cons_succ]
    refine wpAnyH_ready (rs := [2]) (by kernel_rfl) (by simp) (AllReadyH.cons (o := ?oq_3_2) ?op_3_2 (fun K hK => ?re_3_2) AllReadyH.nil)
    case op_3_2 => (simp only [List.getElem?_toArray, List.getElem?_cons_succ, List.getElem?_cons_zero]; rfl)
    go_simp
    go_at_call 22
    refine (mnew_any (by exact hlog) hmay).mono ?_
    rintro en y2 ⟨x, b, rfl, hlb, hMst, hF, hFN⟩
    clear hMst hFN hlb
    have hk := KeepB.of_log (by exact hlog) hF
    have hSq := hS.keepB hk (by decide) (by decide) (by decide) (by decide)
    have hMq := hM.keepB hk (by decide) (by decide) (by decide) (by decide)
    have hbq := hF.to_below hb (fun k hk => by rw [List.mem_singleton.1 hk]; exact hlbn) hBB
    clear hS hM hb hk hF
    have hS := hSq
    have hM := hMq
    have hb := hbq
    clear hSq hMq hbq
    refine hK.out _ _ (by exact ⟨hS.cell rfl, hS.cell rfl, hS.cell rfl, hS.cell rfl, hS.cell rfl, hS.cell rfl, hS.cell rfl⟩) (fun hHeld => ?_)
    clear hK K
    try simp only [Act.put, List.setIfInBounds_toArray, List.set_cons_zero, List.set_cons_succ]
    refine wpAnyH_take (i := 3) (oi := ?oq_3_3) (v := ?va_3_3) ?op_3_3 (by kernel_rfl) (by kernel_rfl) (by kernel_rfl) (fun _ _ _ h => h) ?yi_3_3 hHeld ?re_3_3
    case op_3_3 => (simp only [List.getElem?_toArray, List.getElem?_cons_succ, List.getElem?_cons_zero]; rfl)
    case yi_3_3 =>
      refine Or.inl ⟨by rfl, ?_⟩
      intro w hSw
      try dsimp only at hSw
      go_simp
      all_goals with_reducible rfl
    try simp only [Act.put, List.setIfInBounds_toArray, List.set_cons_zero, List.set_cons_succ]
    refine wpAnyH_take (i := 4) (oi := ?oq_3_4) (v := ?va_3_4) ?op_3_4 (by kernel_rfl) (by kernel_rfl) (by kernel_rfl) (fun _ _ _ h => h) ?yi_3_4 hHeld ?re_3_4
    case op_3_4 => (simp only [List.getElem?_toArray, List.getElem?_cons_succ, List.getElem?_cons_zero]; rfl)
    case yi_3_4 =>
      refine Or.inl ⟨by rfl, ?_⟩
      intro w hSw
      try dsimp only at hSw
      go_simp
      all_goals with_reducible rfl
    try simp only [Act.put, List.setIfInBounds_toArray, List.set_cons_zero, List.set_cons_succ]
    refine wpAnyH_take (i := 5) (oi := ?oq_3_5) (v := ?va_3_5) ?op_3_5 (by kernel_rfl) (by kernel_rfl) (by kernel_rfl) (fun _ _ _ h => h) ?yi_3_5 hHeld ?re_3_5
    case op_3_5 => (simp only [List.getElem?_toArray, List.getElem?_cons_succ, List.getElem?_cons_zero]; rfl)
    case yi_3_5 =>
      refine Or.inl ⟨by rfl, ?_⟩
      intro w hSw
      try dsimp only at hSw
      go_simp
      all_goals with_reducible rfl
    try simp only [Act.put, List.setIfInBounds_toArray, List.set_cons_zero, List.set_cons_succ]
    refine wpAnyH_take (i := 6) (oi := ?oq_3_6) (v := ?va_3_6) ?op_3_6 (by kernel_rfl) (by kernel_rfl) (by kernel_rfl) (fun _ _ _ h => h) ?yi_3_6 hHeld ?re_3_6
    case op_3_6 => (simp only [List.getElem?_toArray, List.getElem?_cons_succ, List.getElem?_cons_zero]; rfl)
    case yi_3_6 =>
      refine Or.inl ⟨by rfl, ?_⟩
      intro w hSw
      try dsimp only at hSw
      go_simp
      all_goals with_reducible rfl
    try simp only [Act.put, List.setIfInBounds_toArray, List.set_cons_zero, List.set_cons_succ]
    refine wpAnyH_take (i := 7) (oi := ?oq_3_7) (v := ?va_3_7) ?op_3_7 (by kernel_rfl) (by kernel_rfl) (by kernel_rfl) (fun _ _ _ h => h) ?yi_3_7 hHeld ?re_3_7
    case op_3_7 => (simp only [List.getElem?_toArray, List.getElem?_cons_succ, List.getElem?_cons_zero]; rfl)
    case yi_3_7 =>
      refine Or.inl ⟨by rfl, ?_⟩
      intro w hSw
      try dsimp only at hSw
      go_simp
      all_goals with_reducible rfl
    try simp only [Act.put, List.setIfInBounds_toArray, List.set_cons_zero, List.set_cons_succ]
    refine wpAnyH_done (by kernel_rfl) ?_ _
    refine NoPanic.normal ?_
    clear hHeld hlog hlbn hBB
    go_upto_region 8 with (fail)
    have bd : Below y2.heap.size y2 y2.drew := below_drewN (Below.refl _ _) 1
    have hSq := hS.below bd
    clear hS
    have hS := hSq
    clear hSq
    have hMq := hM.below bd
    clear hM
    have hM := hMq
    clear hMq
    have hbq := below_step hb bd
    clear hb
    have hb := hbq
    clear hbq bd
    refine wp_region_noPanic ?_
    refine wp_region_held_drew (S := (fun w' => w'.cell? ⟨sb, 0, none⟩ = some (.int .i64 s.nodes) ∧ w'.cell? ⟨sb, 1, none⟩ = some (.int .i64 s.clients) ∧ w'.cell? ⟨sb, 2, none⟩ = some (.int .i64 s.timers) ∧ w'.cell? ⟨sb, 3, none⟩ = some (.int .i64 s.lease) ∧ w'.cell? ⟨sb, 4, none⟩ = some (.int .i64 s.suspect) ∧ w'.cell? ⟨sb, 5, none⟩ = some (.int .i64 s.skew) ∧ w'.cell? ⟨sb, 6, none⟩ = some (.int .i64 s.base))) (by kernel_rfl) (by exact ⟨hS.cell rfl, hS.cell rfl, hS.cell rfl, hS.cell rfl, hS.cell rfl, hS.cell rfl, hS.cell rfl⟩) (fun hHeld => ?_)
    refine wpAnyH_take (i := 0) (oi := ?oq_4_0) (v := ?va_4_0) ?op_4_0 (by kernel_rfl) (by kernel_rfl) (by kernel_rfl) (fun _ _ _ h => h) ?yi_4_0 hHeld ?re_4_0
    case op_4_0 => (simp only [List.getElem?_toArray, List.getElem?_cons_zero]; rfl)
    case yi_4_0 =>
      refine Or.inl ⟨by rfl, ?_⟩
      intro w hSw
      try dsimp only at hSw
      go_simp
      all_goals with_reducible rfl
    try simp only [Act.put, List.setIfInBounds_toArray, List.set_cons_zero, List.set_cons_succ]
    refine wpAnyH_take (i := 2) (oi := ?oq_4_2) (v := ?va_4_2) ?op_4_2 (by kernel_rfl) (by kernel_rfl) (by kernel_rfl) (fun _ _ _ h => h) ?yi_4_2 hHeld ?re_4_2
    case op_4_2 => (simp only [List.getElem?_toArray, List.getElem?_cons_succ, List.getElem?_cons_zero]; rfl)
    case yi_4_2 =>
      refine Or.inl ⟨by rfl, ?_⟩
      intro w hSw
      try dsimp only at hSw
      go_simp
      all_goals with_reducible rfl
    try simp only [Act.put, List.setIfInBounds_toArray, List.set_cons_zero, List.set_cons_succ]
    refine wpAnyH_ready (rs := [1]) (by kernel_rfl) (by simp) (AllReadyH.cons (o := ?oq_4_1) ?op_4_1 (fun K hK => ?re_4_1) AllReadyH.nil)
    case op_4_1 => (simp only [List.getElem?_toArray, List.getElem?_cons_succ, List.getElem?_cons_zero]; rfl)
    go_simp
    go_at_call 24
    refine (new_log _).mono ?_
    rintro en z1 ⟨lb, rfl, hlog, bz⟩
    have hlbn : w.heap.size ≤ lb := Nat.le_trans hb.size hlog.1
    have hBB := hb.size
    have hSq := hS.below bz
    clear hS
    have hS := hSq
    clear hSq
    have hMq := hM.below bz
    clear hM
    have hM := hMq
    clear hMq
    have hbq := below_step hb bz
    clear hb
    have hb := hbq
    clear hbq bz
    refine hK.out _ _ (by exact ⟨hS.cell rfl, hS.cell rfl, hS.cell rfl, hS.cell rfl, hS.cell rfl, hS.cell rfl, hS.cell rfl⟩) (fun hHeld => ?_)
    clear hK K
    try simp only [Act.put, List.setIfInBounds_toArray, List.set_cons_zero, List.set_cons_succ]
    refine wpAnyH_ready (rs := [3]) (by kernel_rfl) (by simp) (AllReadyH.cons (o := ?oq_4_3) ?op_4_3 (fun K hK => ?re_4_3) AllReadyH.nil)
    case op_4_3 => (simp only [List.getElem?_toArray, List.getElem?_cons_succ, List.getElem?_cons_zero]; rfl)
    go_simp
    go_at_call 23
    refine (mrecover_none (by exact hlog) (by simp) hmay (by rw [scanS_no one_nil]) n).mono ?_
    rintro en z2 ⟨rfl, hF⟩
    have hk := KeepB.of_log (by exact hlog) hF
    have hSq := hS.keepB hk (by decide) (by decide) (by decide) (by decide)
    have hMq := hM.keepB hk (by decide) (by decide) (by decide) (by decide)
    have hbq := hF.to_below hb (fun k hk => by rw [List.mem_singleton.1 hk]; exact hlbn) hBB
    clear hS hM hb hk hF
    have hS := hSq
    have hM := hMq
    have hb := hbq
    clear hSq hMq hbq
    refine hK.out _ _ (by exact ⟨hS.cell rfl, hS.cell rfl, hS.cell rfl, hS.cell rfl, hS.cell rfl, hS.cell rfl, hS.cell rfl⟩) (fun hHeld => ?_)
    clear hK K
    try simp only [Act.put, List.setIfInBounds_toArray, List.set_cons_zero, List.set_cons_succ]
    refine wpAnyH_take (i := 4) (oi := ?oq_4_4) (v := ?va_4_4) ?op_4_4 (by kernel_rfl) (by kernel_rfl) (by kernel_rfl) (fun _ _ _ h => h) ?yi_4_4 hHeld ?re_4_4
    case op_4_4 => (simp only [List.getElem?_toArray, List.getElem?_cons_succ, List.getElem?_cons_zero]; rfl)
    case yi_4_4 =>
      refine Or.inl ⟨by rfl, ?_⟩
      intro w hSw
      try dsimp only at hSw
      go_simp
      all_goals with_reducible rfl
    try simp only [Act.put, List.setIfInBounds_toArray, List.set_cons_zero, List.set_cons_succ]
    refine wpAnyH_take (i := 5) (oi := ?oq_4_5) (v := ?va_4_5) ?op_4_5 (by kernel_rfl) (by kernel_rfl) (by kernel_rfl) (fun _ _ _ h => h) ?yi_4_5 hHeld ?re_4_5
    case op_4_5 => (simp only [List.getElem?_toArray, List.getElem?_cons_succ, List.getElem?_cons_zero]; rfl)
    case yi_4_5 =>
      refine Or.inl ⟨by rfl, ?_⟩
      intro w hSw
      try dsimp only at hSw
      go_simp
      all_goals with_reducible rfl
    try simp only [Act.put, List.setIfInBounds_toArray, List.set_cons_zero, List.set_cons_succ]
    refine wpAnyH_take (i := 6) (oi := ?oq_4_6) (v := ?va_4_6) ?op_4_6 (by kernel_rfl) (by kernel_rfl) (by kernel_rfl) (fun _ _ _ h => h) ?yi_4_6 hHeld ?re_4_6
    case op_4_6 => (simp only [List.getElem?_toArray, List.getElem?_cons_succ, List.getElem?_cons_zero]; rfl)
    case yi_4_6 =>
      refine Or.inl ⟨by rfl, ?_⟩
      intro w hSw
      try dsimp only at hSw
      go_simp
      all_goals with_reducible rfl
    try simp only [Act.put, List.setIfInBounds_toArray, List.set_cons_zero, List.set_cons_succ]
    refine wpAnyH_take (i := 7) (oi := ?oq_4_7) (v := ?va_4_7) ?op_4_7 (by kernel_rfl) (by kernel_rfl) (by kernel_rfl) (fun _ _ _ h => h) ?yi_4_7 hHeld ?re_4_7
    case op_4_7 => (simp only [List.getElem?_toArray, List.getElem?_cons_succ, List.getElem?_cons_zero]; rfl)
    case yi_4_7 =>
      refine Or.inl ⟨by rfl, ?_⟩
      intro w hSw
      try dsimp only at hSw
      go_simp
      all_goals with_reducible rfl
    try simp only [Act.put, List.setIfInBounds_toArray, List.set_cons_zero, List.set_cons_succ]
    refine wpAnyH_take (i := 8) (oi := ?oq_4_8) (v := ?va_4_8) ?op_4_8 (by kernel_rfl) (by kernel_rfl) (by kernel_rfl) (fun _ _ _ h => h) ?yi_4_8 hHeld ?re_4_8
    case op_4_8 => (simp only [List.getElem?_toArray, List.getElem?_cons_succ, List.getElem?_cons_zero]; rfl)
    case yi_4_8 =>
      refine Or.inl ⟨by rfl, ?_⟩
      intro w hSw
      try dsimp only at hSw
      go_simp
      all_goals with_reducible rfl
    try simp only [Act.put, List.setIfInBounds_toArray, List.set_cons_zero, List.set_cons_succ]
    refine wpAnyH_done (by kernel_rfl) ?_ _
    refine NoPanic.normal ?_
    clear hHeld
    clear hlog hlbn hBB
    have q0 : z2.cell? ⟨sb, 0, none⟩ = some (.int .i64 s.nodes) := hS.cell rfl
    have q1 : z2.cell? ⟨sb, 1, none⟩ = some (.int .i64 s.clients) := hS.cell rfl
    have q2 : z2.cell? ⟨sb, 2, none⟩ = some (.int .i64 s.timers) := hS.cell rfl
    have q3 : z2.cell? ⟨sb, 3, none⟩ = some (.int .i64 s.lease) := hS.cell rfl
    have q4 : z2.cell? ⟨sb, 4, none⟩ = some (.int .i64 s.suspect) := hS.cell rfl
    have q5 : z2.cell? ⟨sb, 5, none⟩ = some (.int .i64 s.skew) := hS.cell rfl
    have q6 : z2.cell? ⟨sb, 6, none⟩ = some (.int .i64 s.base) := hS.cell rfl
    go_wp2_with fail
    refine (rmay_any s _).mono ?_
    rintro en w8 ⟨rfl, b8⟩
    rw [hmay]
    clear q0 q1 q2 q3 q4 q5 q6
    have hSq := hS.below b8
    clear hS
    have hS := hSq
    clear hSq
    have hMq := hM.below b8
    clear hM
    have hM := hMq
    clear hMq
    have hbq := below_step hb b8
    clear hb
    have hb := hbq
    clear hbq b8
    clear hS
    go_wp2_with fail
    refine (awake15_any _).mono ?_
    rintro en w9 ⟨rfl, b9⟩
    have hMq := hM.below b9
    clear hM
    have hM := hMq
    clear hMq
    have hbq := below_step hb b9
    clear hb
    have hb := hbq
    clear hbq b9
    go_wp2_with (refine mload_want (by rfl) 58 (.tmp 4) rfl mb 0 rfl ms _ hM.range Tryz.underlying58 rfl (by rw [hlen]; exact mmsg_info) ?_; simp only [Act.put, List.setIfInBounds_toArray, List.set_cons_zero, List.set_cons_succ])
    refine (mtake_nil ms n _).mono ?_
    rintro en w10 ⟨rfl, b10⟩
    clear hM

    have hbq := below_step hb b10
    clear hb
    have hb := hbq
    clear hbq b10
    go_wp2_with fail
    refine (mtick_nil n _).mono ?_
    rintro en w11 ⟨rfl, rfl⟩
    go_wp2_with fail
    refine (mconfig_nil _).mono ?_
    rintro en w12 ⟨rfl, b12⟩

    have hbq := below_step hb b12
    clear hb
    have hb := hbq
    clear hbq b12
    go_wp2_with fail
    go_ret
    exact ⟨rfl, hb⟩
set_option maxRecDepth 100000 in
theorem MasterNil_walk {H : Type} {enc : TypeId × Value → H} {base : Nat} {d d2 : DataW H} {p p2 : List MemPlace} (v v2 : Value) (n : Int) (w : World) (hv : Value.okWide Tryz.prog w .any base 23 v) (ht : DataW.Trod enc Tryz.prog w 0 (fun _ => true) true 23 v d p)
    (hv2 : Value.okWide Tryz.prog w .any base 58 v2) (ht2 : DataW.Trod enc Tryz.prog w 0 (fun _ => true) true 58 v2 d2 p2) (hn : W64 n) :
    Calls Tryz.prog 6 #[v, v2, .int .i64 n] w fun e w' => e = .returned (.bool true) ∧ Below w.heap.size w w' := by
  obtain ⟨s, _, rfl⟩ := open_setup hv ht
  obtain ⟨ms, rfl, hlen⟩ := open_msg28 hv2
  exact MasterNil_go s ms hlen hn w


set_option maxRecDepth 100000 in
theorem MasterNil_calls (H : Type) (enc : TypeId × Value → H) (W : World) (base : Nat) (args : Array Value) (ds gs : List (DataW H)) (before : List MemPlace)
    (hval : ∀ (j : Nat) t v, Tryz.f6.params[j]? = some t → args[j]? = some v → Value.okWide Tryz.prog W .any base t v)
    (hW : DataW.Whole enc Tryz.prog Tryz.f6.params.toList Rows.masterNilSpec.vars false W args.toList ds gs before) :
    Calls Tryz.prog 6 args W fun e W' => e = .returned (.bool true) ∧ Below W.heap.size W W' := by
  obtain ⟨p, q, hA, hV, rfl, hfz, hnd⟩ := hW
  rw [Tryz.params6] at hA hval
  obtain ⟨v0, vs0, d0, ds0, p0, q0, hargs, rfl, rfl, h0, r0⟩ := trodAll_cons hA
  obtain ⟨v1, vs1, d1, ds1, p1, q1, rfl, rfl, rfl, h1, r1⟩ := trodAll_cons r0
  obtain ⟨v2, vs2, d2, ds2, p2, q2, rfl, rfl, rfl, h2, r2⟩ := trodAll_cons r1
  obtain ⟨rfl, rfl, rfl⟩ := trodAll_nil r2
  obtain rfl : args = #[v0, v1, v2] := Array.toList_inj.1 hargs
  obtain ⟨x2, rfl, rfl, rfl, w2⟩ := open_int Tryz.underlying3 (hval 2 3 v2 rfl rfl) h2
  exact MasterNil_walk v0 v1 x2 W (hval 0 23 v0 rfl rfl) h0 (hval 1 58 v1 rfl rfl) h1 w2

set_option maxRecDepth 100000 in
theorem MasterNil_lifted (os : Os) (started : os.Started) (H : Type) (enc : TypeId × Value → H) :
    ReturnsInHanded {} Tryz.checked os 6 .any (Rows.masterNilSpec.pre6 enc Tryz.prog Tryz.f6 Rows.masterNilRow.domain false) (Rows.masterNilSpec.post enc Tryz.prog Tryz.f6 false true false false) := by
  refine returnsInHanded_of_change (C := Tryz.checked) own started (by kernel_rfl) Tryz.func6
    (ChangeSpec.witness6 (enc := enc) (C := Tryz.checked) false ⟨#[], #[.agg #[.int .i64 0, .int .i64 0, .int .i64 0, .int .i64 0, .int .i64 0, .int .i64 0, .int .i64 0], .agg #[.int .i64 0, .int .i64 0, .int .i64 0, .int .i64 0, .int .i64 0, .int .i64 0, .int .i64 0, .int .i64 0, .int .i64 0, .int .i64 0, .bool false, .int .i64 0, .int .i64 0, .int .i64 0, .int .i64 0, .int .i64 0, .int .i64 0, .int .i64 0, .int .i64 0, .int .i64 0, .string ByteArray.empty, .int .i64 0, .int .i64 0, .int .i64 0, .int .i64 0, .slice none 0 0, .slice none 0 0, .int .i64 0], .int .i64 0], []⟩ 8 (by kernel_rfl) (by kernel_rfl) (by kernel_rfl) (by kernel_rfl)) ?_
  intro W base args ds gs before hval0 hW hcnd _
  have hval : ∀ (j : Nat) t v, Tryz.f6.params[j]? = some t → args[j]? = some v → Value.okWide Tryz.prog W .any base t v := hval0
  refine (MasterNil_calls H enc W base args ds gs before hval hW).mono fun e W' ⟨he, bel⟩ => ?_
  exact ⟨_, he, law_post (ts := [23, 58, 3]) (by rw [Tryz.params6]) (by intro t ht; simp only [List.mem_cons, List.not_mem_nil, or_false] at ht; rcases ht with rfl | rfl | rfl <;> exact ⟨by kernel_rfl, of_decide_eq_true (by kernel_rfl)⟩) hW rfl
    (fun ds h => by match ds, h with | [_, _, _], _ => rfl) (by kernel_rfl) bel⟩

theorem MasterNil_over : Rows.masterNilRow.holds Tryz.pinned (OpenSpec.ofChange Rows.masterNilSpec) :=
  OpenClaim.holds_of_wide 6 Tryz.f6 rfl rfl rfl rfl rfl rfl rfl ⟨rfl, rfl, rfl, rfl, rfl⟩ rfl rfl rfl rfl rfl (by kernel_rfl) Tryz.func6 (by kernel_rfl)
    (of_decide_eq_true (by kernel_rfl)) (by unfold Func.isWrapper; first | (rw [if_pos (by decide +kernel)]; kernel_rfl) | (rw [if_neg (by decide +kernel)]; exact ⟨rfl, rfl⟩))
    (fun os started H enc _ => MasterNil_lifted os started H enc)

/-- The statement. -/
theorem MasterNil_proved : Rows.MasterNilSaid := MasterNil_over

end Go.Proofs.YtomfmejodmfioaaGreat
