/- ConfigTells: for every chain, every member and every number the law answers true. No condition. -/
import Derived.Test.YtofdmdpnobhnlaaCfgAwake
import Derived.Deep.DeepCutAuto
import Derived.Deep.RegionHeld3
namespace Go.Proofs.Ytofdmdpnobhnlaa
open Go.RowKit Go.ChangeShapes Go.WideShapes Go.Joins Go.Deep
set_option linter.unusedVariables false

theorem qcfirst_at (n : Int) (h0 : 1 ≤ n) (h8 : n ≤ 8) (w : World) :
    Calls Try.prog 26 #[.int .i64 n] w fun en w' => ∃ a cap, en = .returned (.agg #[.int .i64 1, .slice a (firstSeats n.toNat).length cap]) ∧ ChainAt w' (.slice a (firstSeats n.toNat).length cap) (firstSeats n.toNat) ∧ Below w.heap.size w w' := by
  obtain ⟨N, rfl⟩ : ∃ N : Nat, n = N := ⟨n.toNat, by omega⟩
  refine (qcfirst_any N (by omega) w).mono ?_
  rintro en w' ⟨v, rfl, hv, hb⟩
  obtain ⟨a, cap, rfl, hs⟩ := hv
  rw [Int.toNat_natCast]
  exact ⟨a, cap, rfl, ⟨a, cap, rfl, hs⟩, hb⟩
theorem mem_eql_refl (a b : Int) (w : World) : (Go.binOp .eql 27 (.agg #[.int .i64 a, .int .i64 b]) (.agg #[.int .i64 a, .int .i64 b])).run Try.prog w = .ok (.bool true) w := by
  rw [mem_eql]
  simp
theorem sameC_refl (c : ConfV) : sameC c c = true := sameC_iff.2 rfl
theorem placeC_w64 (L : List SeatV) (n l : Int) (h : L.length ≤ 1000) : -1 ≤ placeC L n l ∧ placeC L n l ≤ 1000 := by
  have := place_range L n l
  omega

set_option maxRecDepth 100000 in
set_option maxHeartbeats 4000000 in

theorem ConfigTells_go {w : World} {e : Int} {a : Option Addr} {cap : Nat} {L : List SeatV} (he : W64 e) (hv : ChainAt w (.slice a L.length cap) L) (x y n : Int) (hx : W64 x) (hy : W64 y) (hn : W64 n) :
    Calls Try.prog 7 #[.agg #[.int .i64 e, .slice a L.length cap], .agg #[.int .i64 x, .int .i64 y], .int .i64 n] w fun e w' => e = .returned (.bool true) ∧ Below w.heap.size w w' := by
  go_enter Try.func7, Try.ntmps7
  go_upto_region 1 with (fail)
  have hC : BlkAt ((w.alloc (.cells #[.int .i64 e, .slice a L.length cap] 24)).alloc (.cells #[.int .i64 x, .int .i64 y] 27)) w.heap.size 24 [.int .i64 e, .slice a L.length cap] := (BlkAt.new w 24 [.int .i64 e, .slice a L.length cap]).alloc _
  have hM : BlkAt ((w.alloc (.cells #[.int .i64 e, .slice a L.length cap] 24)).alloc (.cells #[.int .i64 x, .int .i64 y] 27)) (w.heap.size + 1) 27 [.int .i64 x, .int .i64 y] := BlkAt.newAt (by simp) 27 [.int .i64 x, .int .i64 y]
  have hb : Below w.heap.size w ((w.alloc (.cells #[.int .i64 e, .slice a L.length cap] 24)).alloc (.cells #[.int .i64 x, .int .i64 y] 27)) := ((Below.refl w.heap.size w).alloc (Nat.le_refl _) _).alloc (by simp) _
  have hWs : w.heap.size + 2 ≤ ((w.alloc (.cells #[.int .i64 e, .slice a L.length cap] 24)).alloc (.cells #[.int .i64 x, .int .i64 y] 27)).heap.size := by simp
  have hv := hv.below hb
  change Code.wp _ _ _ _ ((w.alloc (.cells #[.int .i64 e, .slice a L.length cap] 24)).alloc (.cells #[.int .i64 x, .int .i64 y] 27))
  generalize (w.alloc (.cells #[.int .i64 e, .slice a L.length cap] 24)).alloc (.cells #[.int .i64 x, .int .i64 y] 27) = W at *
  have hMn : w.heap.size ≤ w.heap.size + 1 := by omega
  have hMb : w.heap.size + 1 < w.heap.size + 2 := by omega
  have hM0 : w.heap.size + 1 ≠ w.heap.size := by omega
  generalize hMd : w.heap.size + 1 = M at *
  clear hWs
  go_wp2_with fail
  refine (awake_any _).mono ?_
  rintro en w1 ⟨rfl, b1⟩
  have hC := BlkAt.below (by exact hC) b1
  have hM := BlkAt.below (by exact hM) b1
  have hv := hv.below b1
  have hb := below_step hb b1
  clear b1
  by_cases hf : L.length ≤ 40
  · have hfd : decide (L.length ≤ 40) = true := by simpa using hf
    have HF := Lib.hid hfd
    have hFew := fun (w : World) (a : Nat) (cap : Nat) (e : Int) (v : Value) (hA : BlkAt w a 24 [.int .i64 e, v]) (hv : ChainAt w v L) => HF.out ▸ few_one (cap := cap) hA hv
    clear hfd
    have HFew := Lib.hid hFew
    clear hFew
    have fhC0 : w1.cell? ⟨w.heap.size, 0, none⟩ = some (.int .i64 e) := hC.cell rfl
    have fhC1 : w1.cell? ⟨w.heap.size, 1, none⟩ = some (.slice a L.length cap) := hC.cell rfl
    go_wp2_with fail
    refine (HFew.out _ _ 1 e _ (by exact BlkAt.new _ 24 [.int .i64 e, .slice a L.length cap]) (by exact hv.alloc _)).mono ?_
    rintro en w2 ⟨rfl, b2⟩
    have hC := BlkAt.below (by exact hC.alloc (.cells #[.int .i64 e, .slice a L.length cap] 24)) b2
    have hM := BlkAt.below (by exact hM.alloc (.cells #[.int .i64 e, .slice a L.length cap] 24)) b2
    have hv := (hv.alloc (.cells #[.int .i64 e, .slice a L.length cap] 24)).below b2
    have hb := below_step (hb.alloc hb.size (.cells #[.int .i64 e, .slice a L.length cap] 24)) b2
    clear fhC0 fhC1 b2
    obtain ⟨pe, pL, px, hP⟩ := conf_parts (firstC n)
    have HP := Lib.hid hP
    clear hP
    go_wp2_with fail
    refine (cfirst_at hn HP.out _).mono ?_
    rintro en w3 ⟨a1, cap1, rfl, hv1, b3⟩
    have hC := BlkAt.below (by exact hC) b3
    have hM := BlkAt.below (by exact hM) b3
    have hv := hv.below b3
    have hb := below_step hb b3
    clear b3
    go_upto_region 4 with (fail)
    have hF := BlkAt.new w3 24 [.int .i64 pe, .slice a1 pL.length cap1]
    have hC := hC.alloc (.cells #[.int .i64 pe, .slice a1 pL.length cap1] 24)
    have hM := hM.alloc (.cells #[.int .i64 pe, .slice a1 pL.length cap1] 24)
    have hv := hv.alloc (.cells #[.int .i64 pe, .slice a1 pL.length cap1] 24)
    have hv1 := hv1.alloc (.cells #[.int .i64 pe, .slice a1 pL.length cap1] 24)
    have hb := hb.alloc hb.size (.cells #[.int .i64 pe, .slice a1 pL.length cap1] 24)
    change Code.wp _ _ _ _ (w3.alloc (.cells #[.int .i64 pe, .slice a1 pL.length cap1] 24))
    change BlkAt (w3.alloc (.cells #[.int .i64 pe, .slice a1 pL.length cap1] 24)) _ _ _ at hF
    generalize w3.alloc (.cells #[.int .i64 pe, .slice a1 pL.length cap1] 24) = v3_2 at *
    generalize w3.heap.size = Z1 at *
    go_cut [73] (fun s wx => s = .bool false ∧ BlkAt wx w.heap.size 24 [.int .i64 e, .slice a L.length cap] ∧ BlkAt wx M 27 [.int .i64 x, .int .i64 y] ∧ ChainAt wx (.slice a L.length cap) L ∧ Below w.heap.size w wx)
    case first =>
      by_cases hr : 1 ≤ n ∧ n ≤ 8
      · obtain ⟨h1, h8⟩ := hr
        have hP := HP.out
        rw [firstC, if_pos ⟨h1, h8⟩] at hP
        simp only [Prod.mk.injEq, ConfV.mk.injEq] at hP
        obtain ⟨⟨rfl, rfl⟩, rfl⟩ := hP
        clear HP
        have d1 : decide ((1 : Int) ≤ n) = true := by simpa using h1
        have d2 : decide (n ≤ 8) = true := by simpa using h8
        have d3 : decide (n < 1) = false := by simp; omega
        have d4 : decide (8 < n) = false := by simp; omega
        have n3 : ¬ n < 1 := by omega
        have n4 : ¬ 8 < n := by omega
        have fhF0 : v3_2.cell? ⟨Z1, 0, none⟩ = some (.int .i64 1) := hF.cell rfl
        have fhF1 : v3_2.cell? ⟨Z1, 1, none⟩ = some (.slice a1 (firstSeats n.toNat).length cap1) := hF.cell rfl
        refine wp_region_noPanic ?_
        refine wp_region_held_drew (S := fun w' => w'.cell? ⟨Z1, 0, none⟩ = some (.int .i64 1) ∧ w'.cell? ⟨Z1, 1, none⟩ = some (.slice a1 (firstSeats n.toNat).length cap1)) (by kernel_rfl) (by exact ⟨fhF0, fhF1⟩) (fun hHeld => ?_)
        have hb := below_drewN hb 1
        refine wpAnyH_take (i := 0) (oi := ?oq0) (v := ?va0) ?op0 (by kernel_rfl) (by kernel_rfl) (by kernel_rfl) (fun _ _ _ h => h) ?yi0 hHeld ?re0
        case op0 => (simp only [List.getElem?_toArray, List.getElem?_cons_zero]; rfl)
        case yi0 =>
          refine Or.inl ⟨by rfl, ?_⟩
          intro w hSw
          try dsimp only at hSw
          go_simp
          all_goals with_reducible rfl
        try simp only [Act.put, List.setIfInBounds_toArray, List.set_cons_zero, List.set_cons_succ]
        refine wpAnyH_take (i := 1) (oi := ?oq1) (v := ?va1) ?op1 (by kernel_rfl) (by kernel_rfl) (by kernel_rfl) (fun _ _ _ h => h) ?yi1 hHeld ?re1
        case op1 => (simp only [List.getElem?_toArray, List.getElem?_cons_succ, List.getElem?_cons_zero]; rfl)
        case yi1 =>
          refine Or.inl ⟨by rfl, ?_⟩
          intro w hSw
          try dsimp only at hSw
          go_simp
          all_goals with_reducible rfl
        try simp only [Act.put, List.setIfInBounds_toArray, List.set_cons_zero, List.set_cons_succ]
        refine wpAnyH_take (i := 2) (oi := ?oq2) (v := ?va2) ?op2 (by kernel_rfl) (by kernel_rfl) (by kernel_rfl) (fun _ _ _ h => h) ?yi2 hHeld ?re2
        case op2 => (simp only [List.getElem?_toArray, List.getElem?_cons_succ, List.getElem?_cons_zero]; rfl)
        case yi2 =>
          refine Or.inl ⟨by rfl, ?_⟩
          intro w hSw
          try dsimp only at hSw
          go_simp
          all_goals with_reducible rfl
        try simp only [Act.put, List.setIfInBounds_toArray, List.set_cons_zero, List.set_cons_succ]
        refine wpAnyH_take (i := 3) (oi := ?oq3) (v := ?va3) ?op3 (by kernel_rfl) (by kernel_rfl) (by kernel_rfl) (fun _ _ _ h => h) ?yi3 hHeld ?re3
        case op3 => (simp only [List.getElem?_toArray, List.getElem?_cons_succ, List.getElem?_cons_zero]; rfl)
        case yi3 =>
          refine Or.inl ⟨by rfl, ?_⟩
          intro w hSw
          try dsimp only at hSw
          go_simp
          all_goals with_reducible rfl
        try simp only [Act.put, List.setIfInBounds_toArray, List.set_cons_zero, List.set_cons_succ]
        refine wpAnyH_take (i := 4) (oi := ?oq4) (v := ?va4) ?op4 (by kernel_rfl) (by kernel_rfl) (by kernel_rfl) (fun _ _ _ h => h) ?yi4 hHeld ?re4
        case op4 => (simp only [List.getElem?_toArray, List.getElem?_cons_succ, List.getElem?_cons_zero]; rfl)
        case yi4 =>
          refine Or.inl ⟨by rfl, ?_⟩
          intro w hSw
          try dsimp only at hSw
          go_simp
          all_goals with_reducible rfl
        try simp only [Act.put, List.setIfInBounds_toArray, List.set_cons_zero, List.set_cons_succ]
        refine wpAnyH_take (i := 5) (oi := ?oq5) (v := ?va5) ?op5 (by kernel_rfl) (by kernel_rfl) (by kernel_rfl) (fun _ _ _ h => h) ?yi5 hHeld ?re5
        case op5 => (simp only [List.getElem?_toArray, List.getElem?_cons_succ, List.getElem?_cons_zero]; rfl)
        case yi5 =>
          refine Or.inl ⟨by rfl, ?_⟩
          intro w hSw
          try dsimp only at hSw
          go_simp
          all_goals with_reducible rfl
        try simp only [Act.put, List.setIfInBounds_toArray, List.set_cons_zero, List.set_cons_succ]
        refine wpAnyH_take (i := 6) (oi := ?oq6) (v := ?va6) ?op6 (by kernel_rfl) (by kernel_rfl) (by kernel_rfl) (fun _ _ _ h => h) ?yi6 hHeld ?re6
        case op6 => (simp only [List.getElem?_toArray, List.getElem?_cons_succ, List.getElem?_cons_zero]; rfl)
        case yi6 =>
          refine Or.inl ⟨by rfl, ?_⟩
          intro w hSw
          try dsimp only at hSw
          go_simp
          all_goals with_reducible rfl
        try simp only [Act.put, List.setIfInBounds_toArray, List.set_cons_zero, List.set_cons_succ]
        refine wpAnyH_take (i := 7) (oi := ?oq7) (v := ?va7) ?op7 (by kernel_rfl) (by kernel_rfl) (by kernel_rfl) (fun _ _ _ h => h) ?yi7 hHeld ?re7
        case op7 => (simp only [List.getElem?_toArray, List.getElem?_cons_succ, List.getElem?_cons_zero]; rfl)
        case yi7 =>
          refine Or.inl ⟨by rfl, ?_⟩
          intro w hSw
          try dsimp only at hSw
          go_simp
          all_goals with_reducible rfl
        try simp only [Act.put, List.setIfInBounds_toArray, List.set_cons_zero, List.set_cons_succ]
        refine wpAnyH_take (i := 8) (oi := ?oq8) (v := ?va8) ?op8 (by kernel_rfl) (by kernel_rfl) (by kernel_rfl) (fun _ _ _ h => h) ?yi8 hHeld ?re8
        case op8 => (simp only [List.getElem?_toArray, List.getElem?_cons_succ, List.getElem?_cons_zero]; rfl)
        case yi8 =>
          refine Or.inl ⟨by rfl, ?_⟩
          intro w hSw
          try dsimp only at hSw
          go_simp
          all_goals with_reducible rfl
        try simp only [Act.put, List.setIfInBounds_toArray, List.set_cons_zero, List.set_cons_succ]
        refine wpAnyH_take (i := 9) (oi := ?oq9) (v := ?va9) ?op9 (by kernel_rfl) (by kernel_rfl) (by kernel_rfl) (fun _ _ _ h => h) ?yi9 hHeld ?re9
        case op9 => (simp only [List.getElem?_toArray, List.getElem?_cons_succ, List.getElem?_cons_zero]; rfl)
        case yi9 =>
          refine Or.inl ⟨by rfl, ?_⟩
          intro w hSw
          try dsimp only at hSw
          go_simp
          all_goals with_reducible rfl
        try simp only [Act.put, List.setIfInBounds_toArray, List.set_cons_zero, List.set_cons_succ]
        refine wpAnyH_take (i := 10) (oi := ?oq10) (v := ?va10) ?op10 (by kernel_rfl) (by kernel_rfl) (by kernel_rfl) (fun _ _ _ h => h) ?yi10 hHeld ?re10
        case op10 => (simp only [List.getElem?_toArray, List.getElem?_cons_succ, List.getElem?_cons_zero]; rfl)
        case yi10 =>
          refine Or.inl ⟨by rfl, ?_⟩
          intro w hSw
          try dsimp only at hSw
          go_simp
          all_goals with_reducible rfl
        try simp only [Act.put, List.setIfInBounds_toArray, List.set_cons_zero, List.set_cons_succ]
        refine wpAnyH_take (i := 11) (oi := ?oq11) (v := ?va11) ?op11 (by kernel_rfl) (by kernel_rfl) (by kernel_rfl) (fun _ _ _ h => h) ?yi11 hHeld ?re11
        case op11 => (simp only [List.getElem?_toArray, List.getElem?_cons_succ, List.getElem?_cons_zero]; rfl)
        case yi11 =>
          refine Or.inl ⟨by rfl, ?_⟩
          intro w hSw
          try dsimp only at hSw
          go_simp
          all_goals with_reducible rfl
        try simp only [Act.put, List.setIfInBounds_toArray, List.set_cons_zero, List.set_cons_succ]
        refine wpAnyH_ready (rs := [12]) (by kernel_rfl) (by simp) (AllReadyH.cons (o := ?oq12) ?op12 (fun K hK => ?re12) AllReadyH.nil)
        case op12 => (simp only [List.getElem?_toArray, List.getElem?_cons_succ, List.getElem?_cons_zero]; rfl)
        go_simp
        go_at_call 26
        refine (qcfirst_at n h1 h8 _).mono ?_
        rintro en z_1 ⟨aq, capq, rfl, hvq, bz⟩
        have hC := BlkAt.below (by exact hC) bz
        have hM := BlkAt.below (by exact hM) bz
        have hF := BlkAt.below (by exact hF) bz
        have hv := ChainAt.below (by exact hv) bz
        have hv1 := ChainAt.below (by exact hv1) bz
        have hb := below_step hb bz
        have fhF0 : z_1.cell? ⟨Z1, 0, none⟩ = some (.int .i64 1) := hF.cell rfl
        have fhF1 : z_1.cell? ⟨Z1, 1, none⟩ = some (.slice a1 (firstSeats n.toNat).length cap1) := hF.cell rfl
        clear bz
        refine hK.out _ _ (by exact ⟨fhF0, fhF1⟩) (fun hHeld => ?_)
        clear hK K
        try simp only [Act.put, List.setIfInBounds_toArray, List.set_cons_zero, List.set_cons_succ]
        refine wpAnyH_ready (rs := [13]) (by kernel_rfl) (by simp) (AllReadyH.cons (o := ?oq13) ?op13 (fun K hK => ?re13) AllReadyH.nil)
        case op13 => (simp only [List.getElem?_toArray, List.getElem?_cons_succ, List.getElem?_cons_zero]; rfl)
        go_simp
        go_at_call 18
        refine (qcsame_at (by exact hv1) (by exact hvq) (sameC_refl _)).mono ?_
        rintro en z_2 ⟨rfl, bz⟩
        have hC := BlkAt.below (by exact hC) bz
        have hM := BlkAt.below (by exact hM) bz
        have hF := BlkAt.below (by exact hF) bz
        have hv := ChainAt.below (by exact hv) bz
        have hv1 := ChainAt.below (by exact hv1) bz
        have hb := below_step hb bz
        have fhF0 : z_2.cell? ⟨Z1, 0, none⟩ = some (.int .i64 1) := hF.cell rfl
        have fhF1 : z_2.cell? ⟨Z1, 1, none⟩ = some (.slice a1 (firstSeats n.toNat).length cap1) := hF.cell rfl
        clear bz
        refine hK.out _ _ (by exact ⟨fhF0, fhF1⟩) (fun hHeld => ?_)
        clear hK K
        try simp only [Act.put, List.setIfInBounds_toArray, List.set_cons_zero, List.set_cons_succ]
        refine wpAnyH_take (i := 14) (oi := ?oq14) (v := ?va14) ?op14 (by kernel_rfl) (by kernel_rfl) (by kernel_rfl) (fun _ _ _ h => h) ?yi14 hHeld ?re14
        case op14 => (simp only [List.getElem?_toArray, List.getElem?_cons_succ, List.getElem?_cons_zero]; rfl)
        case yi14 =>
          refine Or.inl ⟨by rfl, ?_⟩
          intro w hSw
          try dsimp only at hSw
          go_simp
          all_goals with_reducible rfl
        try simp only [Act.put, List.setIfInBounds_toArray, List.set_cons_zero, List.set_cons_succ]
        refine wpAnyH_take (i := 15) (oi := ?oq15) (v := ?va15) ?op15 (by kernel_rfl) (by kernel_rfl) (by kernel_rfl) (fun _ _ _ h => h) ?yi15 hHeld ?re15
        case op15 => (simp only [List.getElem?_toArray, List.getElem?_cons_succ, List.getElem?_cons_zero]; rfl)
        case yi15 =>
          refine Or.inl ⟨by rfl, ?_⟩
          intro w hSw
          try dsimp only at hSw
          go_simp
          all_goals with_reducible rfl
        try simp only [Act.put, List.setIfInBounds_toArray, List.set_cons_zero, List.set_cons_succ]
        refine wpAnyH_take (i := 16) (oi := ?oq16) (v := ?va16) ?op16 (by kernel_rfl) (by kernel_rfl) (by kernel_rfl) (fun _ _ _ h => h) ?yi16 hHeld ?re16
        case op16 => (simp only [List.getElem?_toArray, List.getElem?_cons_succ, List.getElem?_cons_zero]; rfl)
        case yi16 =>
          refine Or.inl ⟨by rfl, ?_⟩
          intro w hSw
          try dsimp only at hSw
          go_simp
          all_goals with_reducible rfl
        try simp only [Act.put, List.setIfInBounds_toArray, List.set_cons_zero, List.set_cons_succ]
        refine wpAnyH_take (i := 17) (oi := ?oq17) (v := ?va17) ?op17 (by kernel_rfl) (by kernel_rfl) (by kernel_rfl) (fun _ _ _ h => h) ?yi17 hHeld ?re17
        case op17 => (simp only [List.getElem?_toArray, List.getElem?_cons_succ, List.getElem?_cons_zero]; rfl)
        case yi17 =>
          refine Or.inl ⟨by rfl, ?_⟩
          intro w hSw
          try dsimp only at hSw
          go_simp
          all_goals with_reducible rfl
        try simp only [Act.put, List.setIfInBounds_toArray, List.set_cons_zero, List.set_cons_succ]
        refine wpAnyH_take (i := 18) (oi := ?oq18) (v := ?va18) ?op18 (by kernel_rfl) (by kernel_rfl) (by kernel_rfl) (fun _ _ _ h => h) ?yi18 hHeld ?re18
        case op18 => (simp only [List.getElem?_toArray, List.getElem?_cons_succ, List.getElem?_cons_zero]; rfl)
        case yi18 =>
          refine Or.inl ⟨by rfl, ?_⟩
          intro w hSw
          try dsimp only at hSw
          go_simp
          all_goals with_reducible rfl
        try simp only [Act.put, List.setIfInBounds_toArray, List.set_cons_zero, List.set_cons_succ]
        refine wpAnyH_take (i := 19) (oi := ?oq19) (v := ?va19) ?op19 (by kernel_rfl) (by kernel_rfl) (by kernel_rfl) (fun _ _ _ h => h) ?yi19 hHeld ?re19
        case op19 => (simp only [List.getElem?_toArray, List.getElem?_cons_succ, List.getElem?_cons_zero]; rfl)
        case yi19 =>
          refine Or.inl ⟨by rfl, ?_⟩
          intro w hSw
          try dsimp only at hSw
          go_simp
          all_goals with_reducible rfl
        try simp only [Act.put, List.setIfInBounds_toArray, List.set_cons_zero, List.set_cons_succ]
        refine wpAnyH_take (i := 20) (oi := ?oq20) (v := ?va20) ?op20 (by kernel_rfl) (by kernel_rfl) (by kernel_rfl) (fun _ _ _ h => h) ?yi20 hHeld ?re20
        case op20 => (simp only [List.getElem?_toArray, List.getElem?_cons_succ, List.getElem?_cons_zero]; rfl)
        case yi20 =>
          refine Or.inl ⟨by rfl, ?_⟩
          intro w hSw
          try dsimp only at hSw
          go_simp
          all_goals with_reducible rfl
        try simp only [Act.put, List.setIfInBounds_toArray, List.set_cons_zero, List.set_cons_succ]
        refine wpAnyH_take (i := 21) (oi := ?oq21) (v := ?va21) ?op21 (by kernel_rfl) (by kernel_rfl) (by kernel_rfl) (fun _ _ _ h => h) ?yi21 hHeld ?re21
        case op21 => (simp only [List.getElem?_toArray, List.getElem?_cons_succ, List.getElem?_cons_zero]; rfl)
        case yi21 =>
          refine Or.inl ⟨by rfl, ?_⟩
          intro w hSw
          try dsimp only at hSw
          go_simp
          all_goals with_reducible rfl
        try simp only [Act.put, List.setIfInBounds_toArray, List.set_cons_zero, List.set_cons_succ]
        refine wpAnyH_take (i := 22) (oi := ?oq22) (v := ?va22) ?op22 (by kernel_rfl) (by kernel_rfl) (by kernel_rfl) (fun _ _ _ h => h) ?yi22 hHeld ?re22
        case op22 => (simp only [List.getElem?_toArray, List.getElem?_cons_succ, List.getElem?_cons_zero]; rfl)
        case yi22 =>
          refine Or.inl ⟨by rfl, ?_⟩
          intro w hSw
          try dsimp only at hSw
          go_simp
          all_goals with_reducible rfl
        try simp only [Act.put, List.setIfInBounds_toArray, List.set_cons_zero, List.set_cons_succ]
        refine wpAnyH_take (i := 23) (oi := ?oq23) (v := ?va23) ?op23 (by kernel_rfl) (by kernel_rfl) (by kernel_rfl) (fun _ _ _ h => h) ?yi23 hHeld ?re23
        case op23 => (simp only [List.getElem?_toArray, List.getElem?_cons_succ, List.getElem?_cons_zero]; rfl)
        case yi23 =>
          refine Or.inl ⟨by rfl, ?_⟩
          intro w hSw
          try dsimp only at hSw
          go_simp
          all_goals with_reducible rfl
        try simp only [Act.put, List.setIfInBounds_toArray, List.set_cons_zero, List.set_cons_succ]
        refine wpAnyH_take (i := 24) (oi := ?oq24) (v := ?va24) ?op24 (by kernel_rfl) (by kernel_rfl) (by kernel_rfl) (fun _ _ _ h => h) ?yi24 hHeld ?re24
        case op24 => (simp only [List.getElem?_toArray, List.getElem?_cons_succ, List.getElem?_cons_zero]; rfl)
        case yi24 =>
          refine Or.inl ⟨by rfl, ?_⟩
          intro w hSw
          try dsimp only at hSw
          go_simp
          all_goals with_reducible rfl
        try simp only [Act.put, List.setIfInBounds_toArray, List.set_cons_zero, List.set_cons_succ]
        refine wpAnyH_take (i := 25) (oi := ?oq25) (v := undef) ?op25 (by kernel_rfl) (by kernel_rfl) (by kernel_rfl) (fun _ _ _ h => h) ?yi25 hHeld ?re25
        case op25 => (simp only [List.getElem?_toArray, List.getElem?_cons_succ, List.getElem?_cons_zero]; rfl)
        case yi25 => exact Or.inr ⟨by rfl, rfl⟩
        try simp only [Act.put, List.setIfInBounds_toArray, List.set_cons_zero, List.set_cons_succ]
        refine wpAnyH_take (i := 26) (oi := ?oq26) (v := undef) ?op26 (by kernel_rfl) (by kernel_rfl) (by kernel_rfl) (fun _ _ _ h => h) ?yi26 hHeld ?re26
        case op26 => (simp only [List.getElem?_toArray, List.getElem?_cons_succ, List.getElem?_cons_zero]; rfl)
        case yi26 => exact Or.inr ⟨by rfl, rfl⟩
        try simp only [Act.put, List.setIfInBounds_toArray, List.set_cons_zero, List.set_cons_succ]
        refine wpAnyH_take (i := 27) (oi := ?oq27) (v := undef) ?op27 (by kernel_rfl) (by kernel_rfl) (by kernel_rfl) (fun _ _ _ h => h) ?yi27 hHeld ?re27
        case op27 => (simp only [List.getElem?_toArray, List.getElem?_cons_succ, List.getElem?_cons_zero]; rfl)
        case yi27 => exact Or.inr ⟨by rfl, rfl⟩
        try simp only [Act.put, List.setIfInBounds_toArray, List.set_cons_zero, List.set_cons_succ]
        refine wpAnyH_take (i := 28) (oi := ?oq28) (v := undef) ?op28 (by kernel_rfl) (by kernel_rfl) (by kernel_rfl) (fun _ _ _ h => h) ?yi28 hHeld ?re28
        case op28 => (simp only [List.getElem?_toArray, List.getElem?_cons_succ, List.getElem?_cons_zero]; rfl)
        case yi28 => exact Or.inr ⟨by rfl, rfl⟩
        try simp only [Act.put, List.setIfInBounds_toArray, List.set_cons_zero, List.set_cons_succ]
        refine wpAnyH_take (i := 29) (oi := ?oq29) (v := undef) ?op29 (by kernel_rfl) (by kernel_rfl) (by kernel_rfl) (fun _ _ _ h => h) ?yi29 hHeld ?re29
        case op29 => (simp only [List.getElem?_toArray, List.getElem?_cons_succ, List.getElem?_cons_zero]; rfl)
        case yi29 => exact Or.inr ⟨by rfl, rfl⟩
        try simp only [Act.put, List.setIfInBounds_toArray, List.set_cons_zero, List.set_cons_succ]
        refine wpAnyH_take (i := 30) (oi := ?oq30) (v := undef) ?op30 (by kernel_rfl) (by kernel_rfl) (by kernel_rfl) (fun _ _ _ h => h) ?yi30 hHeld ?re30
        case op30 => (simp only [List.getElem?_toArray, List.getElem?_cons_succ, List.getElem?_cons_zero]; rfl)
        case yi30 => exact Or.inr ⟨by rfl, rfl⟩
        try simp only [Act.put, List.setIfInBounds_toArray, List.set_cons_zero, List.set_cons_succ]
        refine wpAnyH_take (i := 31) (oi := ?oq31) (v := undef) ?op31 (by kernel_rfl) (by kernel_rfl) (by kernel_rfl) (fun _ _ _ h => h) ?yi31 hHeld ?re31
        case op31 => (simp only [List.getElem?_toArray, List.getElem?_cons_succ, List.getElem?_cons_zero]; rfl)
        case yi31 => exact Or.inr ⟨by rfl, rfl⟩
        try simp only [Act.put, List.setIfInBounds_toArray, List.set_cons_zero, List.set_cons_succ]
        refine wpAnyH_take (i := 32) (oi := ?oq32) (v := undef) ?op32 (by kernel_rfl) (by kernel_rfl) (by kernel_rfl) (fun _ _ _ h => h) ?yi32 hHeld ?re32
        case op32 => (simp only [List.getElem?_toArray, List.getElem?_cons_succ, List.getElem?_cons_zero]; rfl)
        case yi32 => exact Or.inr ⟨by rfl, rfl⟩
        try simp only [Act.put, List.setIfInBounds_toArray, List.set_cons_zero, List.set_cons_succ]
        refine wpAnyH_take (i := 33) (oi := ?oq33) (v := ?va33) ?op33 (by kernel_rfl) (by kernel_rfl) (by kernel_rfl) (fun _ _ _ h => h) ?yi33 hHeld ?re33
        case op33 => (simp only [List.getElem?_toArray, List.getElem?_cons_succ, List.getElem?_cons_zero]; rfl)
        case yi33 =>
          refine Or.inl ⟨by rfl, ?_⟩
          intro w hSw
          try dsimp only at hSw
          go_simp
          all_goals with_reducible rfl
        try simp only [Act.put, List.setIfInBounds_toArray, List.set_cons_zero, List.set_cons_succ]
        refine wpAnyH_take (i := 34) (oi := ?oq34) (v := ?va34) ?op34 (by kernel_rfl) (by kernel_rfl) (by kernel_rfl) (fun _ _ _ h => h) ?yi34 hHeld ?re34
        case op34 => (simp only [List.getElem?_toArray, List.getElem?_cons_succ, List.getElem?_cons_zero]; rfl)
        case yi34 =>
          refine Or.inl ⟨by rfl, ?_⟩
          intro w hSw
          try dsimp only at hSw
          go_simp
          all_goals with_reducible rfl
        try simp only [Act.put, List.setIfInBounds_toArray, List.set_cons_zero, List.set_cons_succ]
        refine wpAnyH_done (by kernel_rfl) ?_ _
        refine NoPanic.normal ?_
        go_wp2_with fail
        go_meet
        exact ⟨rfl, hC, hM, hv, hb⟩
      · have hP := HP.out
        rw [firstC, if_neg hr] at hP
        simp only [Prod.mk.injEq, ConfV.mk.injEq] at hP
        obtain ⟨⟨rfl, rfl⟩, rfl⟩ := hP
        clear HP
        have d1 : n < 1 ∨ 8 < n := by omega
        rcases d1 with h1 | h8
        · have e1 : decide ((1 : Int) ≤ n) = false := by simp; omega
          have e2 : decide (n < 1) = true := by simpa using h1
          have h1' : ¬ (1 : Int) ≤ n := by omega
          change BlkAt _ Z1 24 [.int .i64 0, .slice a1 0 cap1] at hF
          have fhF0 : v3_2.cell? ⟨Z1, 0, none⟩ = some (.int .i64 0) := hF.cell rfl
          have fhF1 : v3_2.cell? ⟨Z1, 1, none⟩ = some (.slice a1 0 cap1) := hF.cell rfl
          go_quiet (fail)
          go_wp2_with fail
          go_meet
          exact ⟨rfl, hC.drewN nq, hM.drewN nq, hv.drewN nq, below_drewN hb nq⟩
        · have e1 : decide ((1 : Int) ≤ n) = true := by simp; omega
          have e2 : decide (n < 1) = false := by simp; omega
          have e3 : decide (n ≤ 8) = false := by simp; omega
          have e4 : decide (8 < n) = true := by simpa using h8
          have h1' : (1 : Int) ≤ n := by omega
          have h2' : ¬ n < 1 := by omega
          have h3' : ¬ n ≤ 8 := by omega
          change BlkAt _ Z1 24 [.int .i64 0, .slice a1 0 cap1] at hF
          have fhF0 : v3_2.cell? ⟨Z1, 0, none⟩ = some (.int .i64 0) := hF.cell rfl
          have fhF1 : v3_2.cell? ⟨Z1, 1, none⟩ = some (.slice a1 0 cap1) := hF.cell rfl
          go_quiet (fail)
          go_wp2_with fail
          go_meet
          exact ⟨rfl, hC.drewN nq, hM.drewN nq, hv.drewN nq, below_drewN hb nq⟩
    case rest =>
      obtain ⟨rfl, hC, hM, hv, hb⟩ := hcut
      obtain ⟨n1, l1, b1, h1⟩ : ∃ n l b, atC L 0 = (n, l, b) := ⟨_, _, _, rfl⟩
      obtain ⟨n2, l2, b2, h2⟩ : ∃ n l b, atC L ((L.length : Int) - 1) = (n, l, b) := ⟨_, _, _, rfl⟩
      obtain ⟨n3, l3, b3, h3⟩ : ∃ n l b, nextC L x y = (n, l, b) := ⟨_, _, _, rfl⟩
      obtain ⟨n4, l4, b4, h4⟩ : ∃ n l b, aheadC L x y = (n, l, b) := ⟨_, _, _, rfl⟩
      obtain ⟨q, hq⟩ : ∃ q, rightC ⟨e, L⟩ = q := ⟨_, rfl⟩
      obtain ⟨pp, hpp⟩ : ∃ p, placeC L x y = p := ⟨_, rfl⟩
      have H1 := Lib.hid h1
      have H2 := Lib.hid h2
      have H3 := Lib.hid h3
      have H4 := Lib.hid h4
      have HQ := Lib.hid hq
      have HPP := Lib.hid hpp
      clear h1 h2 h3 h4 hq hpp HP
      have fhC0 : wc.cell? ⟨w.heap.size, 0, none⟩ = some (.int .i64 e) := hC.cell rfl
      have fhC1 : wc.cell? ⟨w.heap.size, 1, none⟩ = some (.slice a L.length cap) := hC.cell rfl
      go_wp2_with fail
      refine (chead_at (by exact hv) e H1.out).mono ?_
      rintro en w21 ⟨rfl, b21⟩
      have hC := BlkAt.below (by exact hC) b21
      have hM := BlkAt.below (by exact hM) b21
      have hv := hv.below b21
      have hb := below_step hb b21
      clear fhC0 fhC1 b21
      go_upto_region 7 with (fail)
      have hA1 := BlkAt.new w21 27 [.int .i64 n1, .int .i64 l1]
      have hC := hC.alloc (.cells #[.int .i64 n1, .int .i64 l1] 27)
      have hM := hM.alloc (.cells #[.int .i64 n1, .int .i64 l1] 27)
      have hv := hv.alloc (.cells #[.int .i64 n1, .int .i64 l1] 27)
      have hb := hb.alloc hb.size (.cells #[.int .i64 n1, .int .i64 l1] 27)
      change Code.wp _ _ _ _ (w21.alloc (.cells #[.int .i64 n1, .int .i64 l1] 27))
      change BlkAt (w21.alloc (.cells #[.int .i64 n1, .int .i64 l1] 27)) _ _ _ at hA1
      generalize w21.alloc (.cells #[.int .i64 n1, .int .i64 l1] 27) = v21_2 at *
      generalize w21.heap.size = A1 at *
      have fhC0 : v21_2.cell? ⟨w.heap.size, 0, none⟩ = some (.int .i64 e) := hC.cell rfl
      have fhC1 : v21_2.cell? ⟨w.heap.size, 1, none⟩ = some (.slice a L.length cap) := hC.cell rfl
      go_wp2_with fail
      refine (ctail_at (by exact hv) e H2.out).mono ?_
      rintro en w22 ⟨rfl, b22⟩
      have hC := BlkAt.below (by exact hC) b22
      have hM := BlkAt.below (by exact hM) b22
      have hA1 := BlkAt.below (by exact hA1) b22
      have hv := hv.below b22
      have hb := below_step hb b22
      clear fhC0 fhC1 b22
      go_upto_region 8 with (fail)
      have hA2 := BlkAt.new w22 27 [.int .i64 n2, .int .i64 l2]
      have hC := hC.alloc (.cells #[.int .i64 n2, .int .i64 l2] 27)
      have hM := hM.alloc (.cells #[.int .i64 n2, .int .i64 l2] 27)
      have hA1 := hA1.alloc (.cells #[.int .i64 n2, .int .i64 l2] 27)
      have hv := hv.alloc (.cells #[.int .i64 n2, .int .i64 l2] 27)
      have hb := hb.alloc hb.size (.cells #[.int .i64 n2, .int .i64 l2] 27)
      change Code.wp _ _ _ _ (w22.alloc (.cells #[.int .i64 n2, .int .i64 l2] 27))
      change BlkAt (w22.alloc (.cells #[.int .i64 n2, .int .i64 l2] 27)) _ _ _ at hA2
      generalize w22.alloc (.cells #[.int .i64 n2, .int .i64 l2] 27) = v22_3 at *
      generalize w22.heap.size = A2 at *
      have fhC0 : v22_3.cell? ⟨w.heap.size, 0, none⟩ = some (.int .i64 e) := hC.cell rfl
      have fhC1 : v22_3.cell? ⟨w.heap.size, 1, none⟩ = some (.slice a L.length cap) := hC.cell rfl
      have fhM0 : v22_3.cell? ⟨M, 0, none⟩ = some (.int .i64 x) := hM.cell rfl
      have fhM1 : v22_3.cell? ⟨M, 1, none⟩ = some (.int .i64 y) := hM.cell rfl
      go_wp2_with fail
      refine (cnext_at (by exact hv) e H3.out).mono ?_
      rintro en w23 ⟨rfl, b23⟩
      have hC := BlkAt.below (by exact hC) b23
      have hM := BlkAt.below (by exact hM) b23
      have hA1 := BlkAt.below (by exact hA1) b23
      have hA2 := BlkAt.below (by exact hA2) b23
      have hv := hv.below b23
      have hb := below_step hb b23
      clear fhC0 fhC1 fhM0 fhM1 b23
      go_upto_region 9 with (fail)
      have hA3 := BlkAt.new w23 27 [.int .i64 n3, .int .i64 l3]
      have hC := hC.alloc (.cells #[.int .i64 n3, .int .i64 l3] 27)
      have hM := hM.alloc (.cells #[.int .i64 n3, .int .i64 l3] 27)
      have hA1 := hA1.alloc (.cells #[.int .i64 n3, .int .i64 l3] 27)
      have hA2 := hA2.alloc (.cells #[.int .i64 n3, .int .i64 l3] 27)
      have hv := hv.alloc (.cells #[.int .i64 n3, .int .i64 l3] 27)
      have hb := hb.alloc hb.size (.cells #[.int .i64 n3, .int .i64 l3] 27)
      change Code.wp _ _ _ _ (w23.alloc (.cells #[.int .i64 n3, .int .i64 l3] 27))
      change BlkAt (w23.alloc (.cells #[.int .i64 n3, .int .i64 l3] 27)) _ _ _ at hA3
      generalize w23.alloc (.cells #[.int .i64 n3, .int .i64 l3] 27) = v23_4 at *
      generalize w23.heap.size = A3 at *
      have fhC0 : v23_4.cell? ⟨w.heap.size, 0, none⟩ = some (.int .i64 e) := hC.cell rfl
      have fhC1 : v23_4.cell? ⟨w.heap.size, 1, none⟩ = some (.slice a L.length cap) := hC.cell rfl
      have fhM0 : v23_4.cell? ⟨M, 0, none⟩ = some (.int .i64 x) := hM.cell rfl
      have fhM1 : v23_4.cell? ⟨M, 1, none⟩ = some (.int .i64 y) := hM.cell rfl
      go_wp2_with fail
      refine (cahead_at (by exact hv) e H4.out).mono ?_
      rintro en w24 ⟨rfl, b24⟩
      have hC := BlkAt.below (by exact hC) b24
      have hM := BlkAt.below (by exact hM) b24
      have hA1 := BlkAt.below (by exact hA1) b24
      have hA2 := BlkAt.below (by exact hA2) b24
      have hA3 := BlkAt.below (by exact hA3) b24
      have hv := hv.below b24
      have hb := below_step hb b24
      clear fhC0 fhC1 fhM0 fhM1 b24
      go_upto_region 10 with (fail)
      have hA4 := BlkAt.new w24 27 [.int .i64 n4, .int .i64 l4]
      have hC := hC.alloc (.cells #[.int .i64 n4, .int .i64 l4] 27)
      have hM := hM.alloc (.cells #[.int .i64 n4, .int .i64 l4] 27)
      have hA1 := hA1.alloc (.cells #[.int .i64 n4, .int .i64 l4] 27)
      have hA2 := hA2.alloc (.cells #[.int .i64 n4, .int .i64 l4] 27)
      have hA3 := hA3.alloc (.cells #[.int .i64 n4, .int .i64 l4] 27)
      have hv := hv.alloc (.cells #[.int .i64 n4, .int .i64 l4] 27)
      have hb := hb.alloc hb.size (.cells #[.int .i64 n4, .int .i64 l4] 27)
      change Code.wp _ _ _ _ (w24.alloc (.cells #[.int .i64 n4, .int .i64 l4] 27))
      change BlkAt (w24.alloc (.cells #[.int .i64 n4, .int .i64 l4] 27)) _ _ _ at hA4
      generalize w24.alloc (.cells #[.int .i64 n4, .int .i64 l4] 27) = v24_5 at *
      generalize w24.heap.size = A4 at *
      have fhC0 : v24_5.cell? ⟨w.heap.size, 0, none⟩ = some (.int .i64 e) := hC.cell rfl
      have fhC1 : v24_5.cell? ⟨w.heap.size, 1, none⟩ = some (.slice a L.length cap) := hC.cell rfl
      go_wp2_with fail
      refine (qcat_at (by exact hv) e 0 H1.out).mono ?_
      rintro en w25 ⟨rfl, b25⟩
      have hC := BlkAt.below (by exact hC) b25
      have hM := BlkAt.below (by exact hM) b25
      have hA1 := BlkAt.below (by exact hA1) b25
      have hA2 := BlkAt.below (by exact hA2) b25
      have hA3 := BlkAt.below (by exact hA3) b25
      have hA4 := BlkAt.below (by exact hA4) b25
      have hv := hv.below b25
      have hb := below_step hb b25
      clear fhC0 fhC1 b25
      go_upto_region 11 with (fail)
      have hB1 := BlkAt.new w25 27 [.int .i64 n1, .int .i64 l1]
      have hC := hC.alloc (.cells #[.int .i64 n1, .int .i64 l1] 27)
      have hM := hM.alloc (.cells #[.int .i64 n1, .int .i64 l1] 27)
      have hA1 := hA1.alloc (.cells #[.int .i64 n1, .int .i64 l1] 27)
      have hA2 := hA2.alloc (.cells #[.int .i64 n1, .int .i64 l1] 27)
      have hA3 := hA3.alloc (.cells #[.int .i64 n1, .int .i64 l1] 27)
      have hA4 := hA4.alloc (.cells #[.int .i64 n1, .int .i64 l1] 27)
      have hv := hv.alloc (.cells #[.int .i64 n1, .int .i64 l1] 27)
      have hb := hb.alloc hb.size (.cells #[.int .i64 n1, .int .i64 l1] 27)
      change Code.wp _ _ _ _ (w25.alloc (.cells #[.int .i64 n1, .int .i64 l1] 27))
      change BlkAt (w25.alloc (.cells #[.int .i64 n1, .int .i64 l1] 27)) _ _ _ at hB1
      generalize w25.alloc (.cells #[.int .i64 n1, .int .i64 l1] 27) = v25_6 at *
      generalize w25.heap.size = B1 at *
      have hl1 : (L.length : Int) - 1 = (L.length : Int) - 1 := rfl
      have fhC0 : v25_6.cell? ⟨w.heap.size, 0, none⟩ = some (.int .i64 e) := hC.cell rfl
      have fhC1 : v25_6.cell? ⟨w.heap.size, 1, none⟩ = some (.slice a L.length cap) := hC.cell rfl
      go_wp2_with fail
      refine (qcat_at (by exact hv) e _ H2.out).mono ?_
      rintro en w26 ⟨rfl, b26⟩
      have hC := BlkAt.below (by exact hC) b26
      have hM := BlkAt.below (by exact hM) b26
      have hA1 := BlkAt.below (by exact hA1) b26
      have hA2 := BlkAt.below (by exact hA2) b26
      have hA3 := BlkAt.below (by exact hA3) b26
      have hA4 := BlkAt.below (by exact hA4) b26
      have hB1 := BlkAt.below (by exact hB1) b26
      have hv := hv.below b26
      have hb := below_step hb b26
      clear fhC0 fhC1 b26
      go_upto_region 12 with (fail)
      have hB2 := BlkAt.new w26 27 [.int .i64 n2, .int .i64 l2]
      have hC := hC.alloc (.cells #[.int .i64 n2, .int .i64 l2] 27)
      have hM := hM.alloc (.cells #[.int .i64 n2, .int .i64 l2] 27)
      have hA1 := hA1.alloc (.cells #[.int .i64 n2, .int .i64 l2] 27)
      have hA2 := hA2.alloc (.cells #[.int .i64 n2, .int .i64 l2] 27)
      have hA3 := hA3.alloc (.cells #[.int .i64 n2, .int .i64 l2] 27)
      have hA4 := hA4.alloc (.cells #[.int .i64 n2, .int .i64 l2] 27)
      have hB1 := hB1.alloc (.cells #[.int .i64 n2, .int .i64 l2] 27)
      have hv := hv.alloc (.cells #[.int .i64 n2, .int .i64 l2] 27)
      have hb := hb.alloc hb.size (.cells #[.int .i64 n2, .int .i64 l2] 27)
      change Code.wp _ _ _ _ (w26.alloc (.cells #[.int .i64 n2, .int .i64 l2] 27))
      change BlkAt (w26.alloc (.cells #[.int .i64 n2, .int .i64 l2] 27)) _ _ _ at hB2
      generalize w26.alloc (.cells #[.int .i64 n2, .int .i64 l2] 27) = v26_7 at *
      generalize w26.heap.size = B2 at *
      have fhC0 : v26_7.cell? ⟨w.heap.size, 0, none⟩ = some (.int .i64 e) := hC.cell rfl
      have fhC1 : v26_7.cell? ⟨w.heap.size, 1, none⟩ = some (.slice a L.length cap) := hC.cell rfl
      have fhM0 : v26_7.cell? ⟨M, 0, none⟩ = some (.int .i64 x) := hM.cell rfl
      have fhM1 : v26_7.cell? ⟨M, 1, none⟩ = some (.int .i64 y) := hM.cell rfl
      go_wp2_with fail
      refine (qcbeside_at (by exact hv) e (by decide) (by decide) ((beside_next L x y).trans H3.out)).mono ?_
      rintro en w27 ⟨rfl, b27⟩
      have hC := BlkAt.below (by exact hC) b27
      have hM := BlkAt.below (by exact hM) b27
      have hA1 := BlkAt.below (by exact hA1) b27
      have hA2 := BlkAt.below (by exact hA2) b27
      have hA3 := BlkAt.below (by exact hA3) b27
      have hA4 := BlkAt.below (by exact hA4) b27
      have hB1 := BlkAt.below (by exact hB1) b27
      have hB2 := BlkAt.below (by exact hB2) b27
      have hv := hv.below b27
      have hb := below_step hb b27
      clear fhC0 fhC1 fhM0 fhM1 b27
      go_upto_region 13 with (fail)
      have hB3 := BlkAt.new w27 27 [.int .i64 n3, .int .i64 l3]
      have hC := hC.alloc (.cells #[.int .i64 n3, .int .i64 l3] 27)
      have hM := hM.alloc (.cells #[.int .i64 n3, .int .i64 l3] 27)
      have hA1 := hA1.alloc (.cells #[.int .i64 n3, .int .i64 l3] 27)
      have hA2 := hA2.alloc (.cells #[.int .i64 n3, .int .i64 l3] 27)
      have hA3 := hA3.alloc (.cells #[.int .i64 n3, .int .i64 l3] 27)
      have hA4 := hA4.alloc (.cells #[.int .i64 n3, .int .i64 l3] 27)
      have hB1 := hB1.alloc (.cells #[.int .i64 n3, .int .i64 l3] 27)
      have hB2 := hB2.alloc (.cells #[.int .i64 n3, .int .i64 l3] 27)
      have hv := hv.alloc (.cells #[.int .i64 n3, .int .i64 l3] 27)
      have hb := hb.alloc hb.size (.cells #[.int .i64 n3, .int .i64 l3] 27)
      change Code.wp _ _ _ _ (w27.alloc (.cells #[.int .i64 n3, .int .i64 l3] 27))
      change BlkAt (w27.alloc (.cells #[.int .i64 n3, .int .i64 l3] 27)) _ _ _ at hB3
      generalize w27.alloc (.cells #[.int .i64 n3, .int .i64 l3] 27) = v27_8 at *
      generalize w27.heap.size = B3 at *
      have fhC0 : v27_8.cell? ⟨w.heap.size, 0, none⟩ = some (.int .i64 e) := hC.cell rfl
      have fhC1 : v27_8.cell? ⟨w.heap.size, 1, none⟩ = some (.slice a L.length cap) := hC.cell rfl
      have fhM0 : v27_8.cell? ⟨M, 0, none⟩ = some (.int .i64 x) := hM.cell rfl
      have fhM1 : v27_8.cell? ⟨M, 1, none⟩ = some (.int .i64 y) := hM.cell rfl
      go_wp2_with fail
      refine (qcbeside_at (by exact hv) e (by decide) (by decide) ((beside_ahead L x y).trans H4.out)).mono ?_
      rintro en w28 ⟨rfl, b28⟩
      have hC := BlkAt.below (by exact hC) b28
      have hM := BlkAt.below (by exact hM) b28
      have hA1 := BlkAt.below (by exact hA1) b28
      have hA2 := BlkAt.below (by exact hA2) b28
      have hA3 := BlkAt.below (by exact hA3) b28
      have hA4 := BlkAt.below (by exact hA4) b28
      have hB1 := BlkAt.below (by exact hB1) b28
      have hB2 := BlkAt.below (by exact hB2) b28
      have hB3 := BlkAt.below (by exact hB3) b28
      have hv := hv.below b28
      have hb := below_step hb b28
      clear fhC0 fhC1 fhM0 fhM1 b28
      go_upto_region 14 with (fail)
      have hB4 := BlkAt.new w28 27 [.int .i64 n4, .int .i64 l4]
      have hC := hC.alloc (.cells #[.int .i64 n4, .int .i64 l4] 27)
      have hM := hM.alloc (.cells #[.int .i64 n4, .int .i64 l4] 27)
      have hA1 := hA1.alloc (.cells #[.int .i64 n4, .int .i64 l4] 27)
      have hA2 := hA2.alloc (.cells #[.int .i64 n4, .int .i64 l4] 27)
      have hA3 := hA3.alloc (.cells #[.int .i64 n4, .int .i64 l4] 27)
      have hA4 := hA4.alloc (.cells #[.int .i64 n4, .int .i64 l4] 27)
      have hB1 := hB1.alloc (.cells #[.int .i64 n4, .int .i64 l4] 27)
      have hB2 := hB2.alloc (.cells #[.int .i64 n4, .int .i64 l4] 27)
      have hB3 := hB3.alloc (.cells #[.int .i64 n4, .int .i64 l4] 27)
      have hv := hv.alloc (.cells #[.int .i64 n4, .int .i64 l4] 27)
      have hb := hb.alloc hb.size (.cells #[.int .i64 n4, .int .i64 l4] 27)
      change Code.wp _ _ _ _ (w28.alloc (.cells #[.int .i64 n4, .int .i64 l4] 27))
      change BlkAt (w28.alloc (.cells #[.int .i64 n4, .int .i64 l4] 27)) _ _ _ at hB4
      generalize w28.alloc (.cells #[.int .i64 n4, .int .i64 l4] 27) = v28_9 at *
      generalize w28.heap.size = B4 at *
      have g1 := mem_eql_refl n1 l1
      have g2 := mem_eql_refl n2 l2
      have g3 := mem_eql_refl n3 l3
      have g4 := mem_eql_refl n4 l4
      have fhC0 : v28_9.cell? ⟨w.heap.size, 0, none⟩ = some (.int .i64 e) := hC.cell rfl
      have fhC1 : v28_9.cell? ⟨w.heap.size, 1, none⟩ = some (.slice a L.length cap) := hC.cell rfl
      have fhM0 : v28_9.cell? ⟨M, 0, none⟩ = some (.int .i64 x) := hM.cell rfl
      have fhM1 : v28_9.cell? ⟨M, 1, none⟩ = some (.int .i64 y) := hM.cell rfl
      have fhA10 : v28_9.cell? ⟨A1, 0, none⟩ = some (.int .i64 n1) := hA1.cell rfl
      have fhA11 : v28_9.cell? ⟨A1, 1, none⟩ = some (.int .i64 l1) := hA1.cell rfl
      have fhA20 : v28_9.cell? ⟨A2, 0, none⟩ = some (.int .i64 n2) := hA2.cell rfl
      have fhA21 : v28_9.cell? ⟨A2, 1, none⟩ = some (.int .i64 l2) := hA2.cell rfl
      have fhA30 : v28_9.cell? ⟨A3, 0, none⟩ = some (.int .i64 n3) := hA3.cell rfl
      have fhA31 : v28_9.cell? ⟨A3, 1, none⟩ = some (.int .i64 l3) := hA3.cell rfl
      have fhA40 : v28_9.cell? ⟨A4, 0, none⟩ = some (.int .i64 n4) := hA4.cell rfl
      have fhA41 : v28_9.cell? ⟨A4, 1, none⟩ = some (.int .i64 l4) := hA4.cell rfl
      have fhB10 : v28_9.cell? ⟨B1, 0, none⟩ = some (.int .i64 n1) := hB1.cell rfl
      have fhB11 : v28_9.cell? ⟨B1, 1, none⟩ = some (.int .i64 l1) := hB1.cell rfl
      have fhB20 : v28_9.cell? ⟨B2, 0, none⟩ = some (.int .i64 n2) := hB2.cell rfl
      have fhB21 : v28_9.cell? ⟨B2, 1, none⟩ = some (.int .i64 l2) := hB2.cell rfl
      have fhB30 : v28_9.cell? ⟨B3, 0, none⟩ = some (.int .i64 n3) := hB3.cell rfl
      have fhB31 : v28_9.cell? ⟨B3, 1, none⟩ = some (.int .i64 l3) := hB3.cell rfl
      have fhB40 : v28_9.cell? ⟨B4, 0, none⟩ = some (.int .i64 n4) := hB4.cell rfl
      have fhB41 : v28_9.cell? ⟨B4, 1, none⟩ = some (.int .i64 l4) := hB4.cell rfl
      go_region_held3 (fun w' => w'.cell? ⟨w.heap.size, 0, none⟩ = some (.int .i64 e) ∧ w'.cell? ⟨w.heap.size, 1, none⟩ = some (.slice a L.length cap) ∧ w'.cell? ⟨M, 0, none⟩ = some (.int .i64 x) ∧ w'.cell? ⟨M, 1, none⟩ = some (.int .i64 y) ∧ w'.cell? ⟨A1, 0, none⟩ = some (.int .i64 n1) ∧ w'.cell? ⟨A1, 1, none⟩ = some (.int .i64 l1) ∧ w'.cell? ⟨A2, 0, none⟩ = some (.int .i64 n2) ∧ w'.cell? ⟨A2, 1, none⟩ = some (.int .i64 l2) ∧ w'.cell? ⟨A3, 0, none⟩ = some (.int .i64 n3) ∧ w'.cell? ⟨A3, 1, none⟩ = some (.int .i64 l3) ∧ w'.cell? ⟨A4, 0, none⟩ = some (.int .i64 n4) ∧ w'.cell? ⟨A4, 1, none⟩ = some (.int .i64 l4) ∧ w'.cell? ⟨B1, 0, none⟩ = some (.int .i64 n1) ∧ w'.cell? ⟨B1, 1, none⟩ = some (.int .i64 l1) ∧ w'.cell? ⟨B2, 0, none⟩ = some (.int .i64 n2) ∧ w'.cell? ⟨B2, 1, none⟩ = some (.int .i64 l2) ∧ w'.cell? ⟨B3, 0, none⟩ = some (.int .i64 n3) ∧ w'.cell? ⟨B3, 1, none⟩ = some (.int .i64 l3) ∧ w'.cell? ⟨B4, 0, none⟩ = some (.int .i64 n4) ∧ w'.cell? ⟨B4, 1, none⟩ = some (.int .i64 l4))
        (first | exact ⟨fhC0, fhC1, fhM0, fhM1, fhA10, fhA11, fhA20, fhA21, fhA30, fhA31, fhA40, fhA41, fhB10, fhB11, fhB20, fhB21, fhB30, fhB31, fhB40, fhB41⟩ | go_keep)
        (first
          | (go_at_call 21; refine (cright_at (by exact hv) HQ.out).mono ?_; rintro en z ⟨rfl, bz⟩; have hC := BlkAt.below (by exact hC) bz; have hM := BlkAt.below (by exact hM) bz; have hA1 := BlkAt.below (by exact hA1) bz; have hA2 := BlkAt.below (by exact hA2) bz; have hA3 := BlkAt.below (by exact hA3) bz; have hA4 := BlkAt.below (by exact hA4) bz; have hB1 := BlkAt.below (by exact hB1) bz; have hB2 := BlkAt.below (by exact hB2) bz; have hB3 := BlkAt.below (by exact hB3) bz; have hB4 := BlkAt.below (by exact hB4) bz; have hv := ChainAt.below (by exact hv) bz; have hb := below_step (by first | exact hb | exact below_drewN hb 1) bz; have fhC0 : z.cell? ⟨w.heap.size, 0, none⟩ = some (.int .i64 e) := hC.cell rfl; have fhC1 : z.cell? ⟨w.heap.size, 1, none⟩ = some (.slice a L.length cap) := hC.cell rfl; have fhM0 : z.cell? ⟨M, 0, none⟩ = some (.int .i64 x) := hM.cell rfl; have fhM1 : z.cell? ⟨M, 1, none⟩ = some (.int .i64 y) := hM.cell rfl; have fhA10 : z.cell? ⟨A1, 0, none⟩ = some (.int .i64 n1) := hA1.cell rfl; have fhA11 : z.cell? ⟨A1, 1, none⟩ = some (.int .i64 l1) := hA1.cell rfl; have fhA20 : z.cell? ⟨A2, 0, none⟩ = some (.int .i64 n2) := hA2.cell rfl; have fhA21 : z.cell? ⟨A2, 1, none⟩ = some (.int .i64 l2) := hA2.cell rfl; have fhA30 : z.cell? ⟨A3, 0, none⟩ = some (.int .i64 n3) := hA3.cell rfl; have fhA31 : z.cell? ⟨A3, 1, none⟩ = some (.int .i64 l3) := hA3.cell rfl; have fhA40 : z.cell? ⟨A4, 0, none⟩ = some (.int .i64 n4) := hA4.cell rfl; have fhA41 : z.cell? ⟨A4, 1, none⟩ = some (.int .i64 l4) := hA4.cell rfl; have fhB10 : z.cell? ⟨B1, 0, none⟩ = some (.int .i64 n1) := hB1.cell rfl; have fhB11 : z.cell? ⟨B1, 1, none⟩ = some (.int .i64 l1) := hB1.cell rfl; have fhB20 : z.cell? ⟨B2, 0, none⟩ = some (.int .i64 n2) := hB2.cell rfl; have fhB21 : z.cell? ⟨B2, 1, none⟩ = some (.int .i64 l2) := hB2.cell rfl; have fhB30 : z.cell? ⟨B3, 0, none⟩ = some (.int .i64 n3) := hB3.cell rfl; have fhB31 : z.cell? ⟨B3, 1, none⟩ = some (.int .i64 l3) := hB3.cell rfl; have fhB40 : z.cell? ⟨B4, 0, none⟩ = some (.int .i64 n4) := hB4.cell rfl; have fhB41 : z.cell? ⟨B4, 1, none⟩ = some (.int .i64 l4) := hB4.cell rfl; clear bz)
          | (go_at_call 31; refine (qcright_at (by exact hv) HQ.out).mono ?_; rintro en z ⟨rfl, bz⟩; have hC := BlkAt.below (by exact hC) bz; have hM := BlkAt.below (by exact hM) bz; have hA1 := BlkAt.below (by exact hA1) bz; have hA2 := BlkAt.below (by exact hA2) bz; have hA3 := BlkAt.below (by exact hA3) bz; have hA4 := BlkAt.below (by exact hA4) bz; have hB1 := BlkAt.below (by exact hB1) bz; have hB2 := BlkAt.below (by exact hB2) bz; have hB3 := BlkAt.below (by exact hB3) bz; have hB4 := BlkAt.below (by exact hB4) bz; have hv := ChainAt.below (by exact hv) bz; have hb := below_step (by first | exact hb | exact below_drewN hb 1) bz; have fhC0 : z.cell? ⟨w.heap.size, 0, none⟩ = some (.int .i64 e) := hC.cell rfl; have fhC1 : z.cell? ⟨w.heap.size, 1, none⟩ = some (.slice a L.length cap) := hC.cell rfl; have fhM0 : z.cell? ⟨M, 0, none⟩ = some (.int .i64 x) := hM.cell rfl; have fhM1 : z.cell? ⟨M, 1, none⟩ = some (.int .i64 y) := hM.cell rfl; have fhA10 : z.cell? ⟨A1, 0, none⟩ = some (.int .i64 n1) := hA1.cell rfl; have fhA11 : z.cell? ⟨A1, 1, none⟩ = some (.int .i64 l1) := hA1.cell rfl; have fhA20 : z.cell? ⟨A2, 0, none⟩ = some (.int .i64 n2) := hA2.cell rfl; have fhA21 : z.cell? ⟨A2, 1, none⟩ = some (.int .i64 l2) := hA2.cell rfl; have fhA30 : z.cell? ⟨A3, 0, none⟩ = some (.int .i64 n3) := hA3.cell rfl; have fhA31 : z.cell? ⟨A3, 1, none⟩ = some (.int .i64 l3) := hA3.cell rfl; have fhA40 : z.cell? ⟨A4, 0, none⟩ = some (.int .i64 n4) := hA4.cell rfl; have fhA41 : z.cell? ⟨A4, 1, none⟩ = some (.int .i64 l4) := hA4.cell rfl; have fhB10 : z.cell? ⟨B1, 0, none⟩ = some (.int .i64 n1) := hB1.cell rfl; have fhB11 : z.cell? ⟨B1, 1, none⟩ = some (.int .i64 l1) := hB1.cell rfl; have fhB20 : z.cell? ⟨B2, 0, none⟩ = some (.int .i64 n2) := hB2.cell rfl; have fhB21 : z.cell? ⟨B2, 1, none⟩ = some (.int .i64 l2) := hB2.cell rfl; have fhB30 : z.cell? ⟨B3, 0, none⟩ = some (.int .i64 n3) := hB3.cell rfl; have fhB31 : z.cell? ⟨B3, 1, none⟩ = some (.int .i64 l3) := hB3.cell rfl; have fhB40 : z.cell? ⟨B4, 0, none⟩ = some (.int .i64 n4) := hB4.cell rfl; have fhB41 : z.cell? ⟨B4, 1, none⟩ = some (.int .i64 l4) := hB4.cell rfl; clear bz)
          | (go_at_call 24; refine (cplace_at (by exact hv) e HPP.out).mono ?_; rintro en z ⟨rfl, bz⟩; have hC := BlkAt.below (by exact hC) bz; have hM := BlkAt.below (by exact hM) bz; have hA1 := BlkAt.below (by exact hA1) bz; have hA2 := BlkAt.below (by exact hA2) bz; have hA3 := BlkAt.below (by exact hA3) bz; have hA4 := BlkAt.below (by exact hA4) bz; have hB1 := BlkAt.below (by exact hB1) bz; have hB2 := BlkAt.below (by exact hB2) bz; have hB3 := BlkAt.below (by exact hB3) bz; have hB4 := BlkAt.below (by exact hB4) bz; have hv := ChainAt.below (by exact hv) bz; have hb := below_step (by first | exact hb | exact below_drewN hb 1) bz; have fhC0 : z.cell? ⟨w.heap.size, 0, none⟩ = some (.int .i64 e) := hC.cell rfl; have fhC1 : z.cell? ⟨w.heap.size, 1, none⟩ = some (.slice a L.length cap) := hC.cell rfl; have fhM0 : z.cell? ⟨M, 0, none⟩ = some (.int .i64 x) := hM.cell rfl; have fhM1 : z.cell? ⟨M, 1, none⟩ = some (.int .i64 y) := hM.cell rfl; have fhA10 : z.cell? ⟨A1, 0, none⟩ = some (.int .i64 n1) := hA1.cell rfl; have fhA11 : z.cell? ⟨A1, 1, none⟩ = some (.int .i64 l1) := hA1.cell rfl; have fhA20 : z.cell? ⟨A2, 0, none⟩ = some (.int .i64 n2) := hA2.cell rfl; have fhA21 : z.cell? ⟨A2, 1, none⟩ = some (.int .i64 l2) := hA2.cell rfl; have fhA30 : z.cell? ⟨A3, 0, none⟩ = some (.int .i64 n3) := hA3.cell rfl; have fhA31 : z.cell? ⟨A3, 1, none⟩ = some (.int .i64 l3) := hA3.cell rfl; have fhA40 : z.cell? ⟨A4, 0, none⟩ = some (.int .i64 n4) := hA4.cell rfl; have fhA41 : z.cell? ⟨A4, 1, none⟩ = some (.int .i64 l4) := hA4.cell rfl; have fhB10 : z.cell? ⟨B1, 0, none⟩ = some (.int .i64 n1) := hB1.cell rfl; have fhB11 : z.cell? ⟨B1, 1, none⟩ = some (.int .i64 l1) := hB1.cell rfl; have fhB20 : z.cell? ⟨B2, 0, none⟩ = some (.int .i64 n2) := hB2.cell rfl; have fhB21 : z.cell? ⟨B2, 1, none⟩ = some (.int .i64 l2) := hB2.cell rfl; have fhB30 : z.cell? ⟨B3, 0, none⟩ = some (.int .i64 n3) := hB3.cell rfl; have fhB31 : z.cell? ⟨B3, 1, none⟩ = some (.int .i64 l3) := hB3.cell rfl; have fhB40 : z.cell? ⟨B4, 0, none⟩ = some (.int .i64 n4) := hB4.cell rfl; have fhB41 : z.cell? ⟨B4, 1, none⟩ = some (.int .i64 l4) := hB4.cell rfl; clear bz)
          | (go_at_call 32; refine (qcplace_at (by exact hv) e HPP.out).mono ?_; rintro en z ⟨rfl, bz⟩; have hC := BlkAt.below (by exact hC) bz; have hM := BlkAt.below (by exact hM) bz; have hA1 := BlkAt.below (by exact hA1) bz; have hA2 := BlkAt.below (by exact hA2) bz; have hA3 := BlkAt.below (by exact hA3) bz; have hA4 := BlkAt.below (by exact hA4) bz; have hB1 := BlkAt.below (by exact hB1) bz; have hB2 := BlkAt.below (by exact hB2) bz; have hB3 := BlkAt.below (by exact hB3) bz; have hB4 := BlkAt.below (by exact hB4) bz; have hv := ChainAt.below (by exact hv) bz; have hb := below_step (by first | exact hb | exact below_drewN hb 1) bz; have fhC0 : z.cell? ⟨w.heap.size, 0, none⟩ = some (.int .i64 e) := hC.cell rfl; have fhC1 : z.cell? ⟨w.heap.size, 1, none⟩ = some (.slice a L.length cap) := hC.cell rfl; have fhM0 : z.cell? ⟨M, 0, none⟩ = some (.int .i64 x) := hM.cell rfl; have fhM1 : z.cell? ⟨M, 1, none⟩ = some (.int .i64 y) := hM.cell rfl; have fhA10 : z.cell? ⟨A1, 0, none⟩ = some (.int .i64 n1) := hA1.cell rfl; have fhA11 : z.cell? ⟨A1, 1, none⟩ = some (.int .i64 l1) := hA1.cell rfl; have fhA20 : z.cell? ⟨A2, 0, none⟩ = some (.int .i64 n2) := hA2.cell rfl; have fhA21 : z.cell? ⟨A2, 1, none⟩ = some (.int .i64 l2) := hA2.cell rfl; have fhA30 : z.cell? ⟨A3, 0, none⟩ = some (.int .i64 n3) := hA3.cell rfl; have fhA31 : z.cell? ⟨A3, 1, none⟩ = some (.int .i64 l3) := hA3.cell rfl; have fhA40 : z.cell? ⟨A4, 0, none⟩ = some (.int .i64 n4) := hA4.cell rfl; have fhA41 : z.cell? ⟨A4, 1, none⟩ = some (.int .i64 l4) := hA4.cell rfl; have fhB10 : z.cell? ⟨B1, 0, none⟩ = some (.int .i64 n1) := hB1.cell rfl; have fhB11 : z.cell? ⟨B1, 1, none⟩ = some (.int .i64 l1) := hB1.cell rfl; have fhB20 : z.cell? ⟨B2, 0, none⟩ = some (.int .i64 n2) := hB2.cell rfl; have fhB21 : z.cell? ⟨B2, 1, none⟩ = some (.int .i64 l2) := hB2.cell rfl; have fhB30 : z.cell? ⟨B3, 0, none⟩ = some (.int .i64 n3) := hB3.cell rfl; have fhB31 : z.cell? ⟨B3, 1, none⟩ = some (.int .i64 l3) := hB3.cell rfl; have fhB40 : z.cell? ⟨B4, 0, none⟩ = some (.int .i64 n4) := hB4.cell rfl; have fhB41 : z.cell? ⟨B4, 1, none⟩ = some (.int .i64 l4) := hB4.cell rfl; clear bz))
      all_goals
        go_wp2_with fail
        go_ret
        exact ⟨rfl, hb⟩
  · have hfd : decide (L.length ≤ 40) = false := by simpa using hf
    have HF := Lib.hid hfd
    clear hfd
    have fhC0 : w1.cell? ⟨w.heap.size, 0, none⟩ = some (.int .i64 e) := hC.cell rfl
    have fhC1 : w1.cell? ⟨w.heap.size, 1, none⟩ = some (.slice a L.length cap) := hC.cell rfl
    go_wp2_with fail
    refine (few_one (by exact BlkAt.new _ 24 [.int .i64 e, .slice a L.length cap]) (by exact hv.alloc _)).mono ?_
    rintro en w2 ⟨rfl, b2⟩
    have hC := BlkAt.below (by exact hC.alloc (.cells #[.int .i64 e, .slice a L.length cap] 24)) b2
    have hM := BlkAt.below (by exact hM.alloc (.cells #[.int .i64 e, .slice a L.length cap] 24)) b2
    have hv := (hv.alloc (.cells #[.int .i64 e, .slice a L.length cap] 24)).below b2
    have hb := below_step (hb.alloc hb.size (.cells #[.int .i64 e, .slice a L.length cap] 24)) b2
    clear fhC0 fhC1 b2
    rw [HF.out]
    go_wp2_with fail
    refine (awake_any _).mono ?_
    rintro en w9 ⟨rfl, b9⟩
    have hb := below_step hb b9
    go_wp2_with fail
    go_ret
    exact ⟨rfl, hb⟩

set_option maxRecDepth 100000 in
theorem ConfigTells_walk {H : Type} {enc : TypeId × Value → H} {base : Nat} {d : DataW H} {p : List MemPlace} (v : Value) (x y n : Int) (w : World) (hv : Value.okWide Try.prog w .any base 24 v) (ht : DataW.Trod enc Try.prog w 0 (fun _ => true) true 24 v d p)
    (hx : W64 x) (hy : W64 y) (hn : W64 n) :
    Calls Try.prog 7 #[v, .agg #[.int .i64 x, .int .i64 y], .int .i64 n] w fun e w' => e = .returned (.bool true) ∧ Below w.heap.size w w' := by
  obtain ⟨e, a, cap, L, he, hc, rfl⟩ := open_conf hv ht
  exact ConfigTells_go he hc x y n hx hy hn


set_option maxRecDepth 100000 in
theorem ConfigTells_calls (H : Type) (enc : TypeId × Value → H) (W : World) (base : Nat) (args : Array Value) (ds gs : List (DataW H)) (before : List MemPlace)
    (hval : ∀ (j : Nat) t v, Try.f7.params[j]? = some t → args[j]? = some v → Value.okWide Try.prog W .any base t v)
    (hW : DataW.Whole enc Try.prog Try.f7.params.toList Rows.configTellsSpec.vars false W args.toList ds gs before) :
    Calls Try.prog 7 args W fun e W' => e = .returned (.bool true) ∧ Below W.heap.size W W' := by
  obtain ⟨p, q, hA, hV, rfl, hfz, hnd⟩ := hW
  rw [Try.params7] at hA hval
  obtain ⟨v0, vs0, d0, ds0, p0, q0, hargs, rfl, rfl, h0, r0⟩ := trodAll_cons hA
  obtain ⟨v1, vs1, d1, ds1, p1, q1, rfl, rfl, rfl, h1, r1⟩ := trodAll_cons r0
  obtain ⟨v2, vs2, d2, ds2, p2, q2, rfl, rfl, rfl, h2, r2⟩ := trodAll_cons r1
  obtain ⟨rfl, rfl, rfl⟩ := trodAll_nil r2
  obtain rfl : args = #[v0, v1, v2] := Array.toList_inj.1 hargs
  obtain ⟨c1, e1, z1, z1_, m1, rfl, rfl, rfl, hz1, hz1_⟩ := Joins.open_agg2 Try.underlying27 (by kernel_rfl) (by kernel_rfl) (hval 1 27 v1 rfl rfl) h1
  obtain ⟨x1, g1, rfl, w1⟩ := DataW.trod_int Try.underlying3 hz1
  obtain ⟨y1, g1_, rfl, w1_⟩ := DataW.trod_int Try.underlying3 hz1_
  simp at g1 g1_; subst g1 g1_
  obtain ⟨x2, rfl, rfl, rfl, w2⟩ := open_int Try.underlying3 (hval 2 3 v2 rfl rfl) h2
  exact ConfigTells_walk v0 x1 y1 x2 W (hval 0 24 v0 rfl rfl) h0 w1 w1_ w2

set_option maxRecDepth 100000 in
theorem ConfigTells_lifted (os : Os) (started : os.Started) (H : Type) (enc : TypeId × Value → H) :
    ReturnsInHanded {} Try.checked os 7 .any (Rows.configTellsSpec.pre6 enc Try.prog Try.f7 Rows.configTellsRow.domain false) (Rows.configTellsSpec.post enc Try.prog Try.f7 false true false false) := by
  refine returnsInHanded_of_change (C := Try.checked) own started (by kernel_rfl) Try.func7
    (ChangeSpec.witness6 (enc := enc) (C := Try.checked) false ⟨#[], #[.agg #[.int .i64 0, .slice none 0 0], .agg #[.int .i64 0, .int .i64 0], .int .i64 0], []⟩ 8 (by kernel_rfl) (by kernel_rfl) (by kernel_rfl) (by kernel_rfl)) ?_
  intro W base args ds gs before hval0 hW hcnd _
  have hval : ∀ (j : Nat) t v, Try.f7.params[j]? = some t → args[j]? = some v → Value.okWide Try.prog W .any base t v := hval0
  refine (ConfigTells_calls H enc W base args ds gs before hval hW).mono fun e W' ⟨he, bel⟩ => ?_
  exact ⟨_, he, law_post (ts := [24, 27, 3]) (by rw [Try.params7]) (by intro t ht; simp only [List.mem_cons, List.not_mem_nil, or_false] at ht; rcases ht with rfl | rfl | rfl <;> exact ⟨by kernel_rfl, of_decide_eq_true (by kernel_rfl)⟩) hW rfl
    (fun ds h => by match ds, h with | [_, _, _], _ => rfl) (by kernel_rfl) bel⟩

theorem ConfigTells_over : Rows.configTellsRow.holds Try.pinned (OpenSpec.ofChange Rows.configTellsSpec) :=
  OpenClaim.holds_of_wide 7 Try.f7 rfl rfl rfl rfl rfl rfl rfl ⟨rfl, rfl, rfl, rfl, rfl⟩ rfl rfl rfl rfl rfl (by kernel_rfl) Try.func7 (by kernel_rfl)
    (of_decide_eq_true (by kernel_rfl)) (by unfold Func.isWrapper; first | (rw [if_pos (by decide +kernel)]; kernel_rfl) | (rw [if_neg (by decide +kernel)]; exact ⟨rfl, rfl⟩))
    (fun os started H enc _ => ConfigTells_lifted os started H enc)

/-- The statement. -/
theorem ConfigTells_proved : Rows.ConfigTellsSaid := ConfigTells_over

end Go.Proofs.Ytofdmdpnobhnlaa
