/- The master: the chain in which one more is synced. The master: the chain with one more. The master: the chain that it would choose. The master: who sits is noted. The master: since when who is free to go is so. The master: it turns to the chain that it wants. -/
import Derived.Test.YtomfmejodmfioaaGreatKMst1
import Derived.StillTailTactics
import Derived.Test.YtomfmejodmfioaaGreatKMstP
import Derived.Test.YtomfmejodmfioaaGreatKCfgD
namespace Go.Proofs.YtomfmejodmfioaaGreat
open Go.RowKit Go.Maps Go.ChangeShapes Go.WideShapes Go.Joins Go.Deep
set_option linter.unusedVariables false


theorem find_at {V : MstV} {L : List SeatV} {k : Nat} {s : SeatV} (hs : L[k]? = some s) (hq : raiseS V s = true) (hA : ∀ j t, j < k → L[j]? = some t → raiseS V t = false) : L.find? (raiseS V) = some s := by
  rw [List.find?_eq_some_iff_getElem]
  obtain ⟨hk, he⟩ := List.getElem?_eq_some_iff.1 hs
  exact ⟨hq, k, hk, he, fun j hj => by rw [hA j _ hj (List.getElem?_eq_getElem (by omega))]; rfl⟩
theorem mblk_there {w : World} {b : Nat} {T : TypeId} {cs : List Value} (h : BlkAt w b T cs) : w.there b 0 cs.toArray.size := by
  intro j hj
  have hj' : j < cs.length := by simpa using hj
  rw [Nat.zero_add]
  exact ⟨by rw [h.cell (List.getElem?_eq_getElem hj')]; rfl, h.free j⟩
theorem mblk_there2 {w : World} {b : Nat} {T : TypeId} {ds cs : List Value} (h : BlkAt w b T ds) (hl : cs.length = ds.length) : w.there b 0 cs.toArray.size := by
  have := mblk_there h
  rw [List.size_toArray] at this ⊢
  rw [hl]
  exact this
theorem beat_info4 : (Tryz.prog.info? 102).map (·.size) = some 4 := by kernel_rfl
set_option maxRecDepth 100000 in
set_option maxHeartbeats 4000000 in

theorem mraise_any {B x N : Nat} {w : World} {b : MBlk} {V : MstV} {l : List UInt8} (h : MAt B w x b N V l) {r : ConfV × Bool} (hr : raiseM V = r) :
    Calls Tryz.prog 47 #[.pointer (some ⟨x, 0, none⟩)] w fun e w' => MConf w w' e r := by
  have hl8 := right_len h.ok.right
  have hrs : Hid (∀ s ∈ V.cf.chain, ∃ n : Nat, n < 8 ∧ s.node = n ∧ 1 ≤ s.life ∧ s.life ≤ 1099511627776) := Lib.hid (fun s hs => right_seat h.ok.right hs)
  have HR0 := Lib.hid hr
  clear hr
  go_enter Tryz.func47, Tryz.ntmps47
  go_upto_region 1 with (fail)
  have hD : BlkAt (w.alloc (.cells #[.int .i64 0, .slice none 0 0] 35)) w.heap.size 35 [.int .i64 0, .slice none 0 0] := BlkAt.new w 35 [.int .i64 0, .slice none 0 0]
  have hb : Below w.heap.size w (w.alloc (.cells #[.int .i64 0, .slice none 0 0] 35)) := (Below.refl w.heap.size w).alloc (Nat.le_refl _) _
  have hWs : w.heap.size + 1 ≤ (w.alloc (.cells #[.int .i64 0, .slice none 0 0] 35)).heap.size := by simp
  change Code.wp _ _ _ _ (w.alloc (.cells #[.int .i64 0, .slice none 0 0] 35))
  generalize w.alloc (.cells #[.int .i64 0, .slice none 0 0] 35) = W at *
  obtain ⟨D, hDD⟩ : ∃ D, D = w.heap.size := ⟨_, rfl⟩
  have hDn : w.heap.size ≤ D := by omega
  rw [← hDD] at hD ⊢
  have HM := Lib.hid (h.below hb)
  have HB0 := Lib.hid hb
  have HD := Lib.hid hD
  have hDs : D < W.heap.size := hD.lt
  clear hDD hWs hD hb h
  have hb := Below.refl W.heap.size W
  have HX := Lib.hid HM.out.lows
  obtain ⟨A, cap, hC, c8, c9⟩ := HM.out.conf
  obtain ⟨_, _, hqq, hs⟩ := hC.1
  cases hqq
  have HS := Lib.hid hs
  have HC9 : Hid (∀ W', Below W.heap.size W W' → ChainS W' (.slice A V.cf.chain.length cap) V.cf.chain ∧ W'.cell? ⟨x, 9, none⟩ = some (.slice A V.cf.chain.length cap)) := Lib.hid (fun W' hW => ⟨hC.below hW, (hW.cell (p := ⟨x, _, none⟩) HM.out.lt).trans c9⟩)
  clear c8 hC hs
  go_wp2_with fail
  clear c9
  go_loopw [15] (fun i wr => ∃ (k : Nat), k ≤ V.cf.chain.length ∧ i = .int .i64 k ∧ Aside (∀ j s, j < k → V.cf.chain[j]? = some s → raiseS V s = false) ∧ Below W.heap.size W wr) (fun i _ => V.cf.chain.length - (intOf i).toNat)
  case atStart => exact ⟨0, Nat.zero_le _, rfl, fun j s hj => by omega, hb⟩
  case round =>
    obtain ⟨k, hk, rfl, HA, hbr⟩ := hrel
    clear hb
    have hb := hbr
    clear hbr
    by_cases hlt' : k < V.cf.chain.length
    · obtain ⟨q, off, rfl, hab, hc⟩ := HS.out.2.2 (by omega)
      obtain ⟨s, hs'⟩ : ∃ s, V.cf.chain[k]? = some s := ⟨_, List.getElem?_eq_getElem hlt'⟩
      obtain ⟨s0, s1, s2⟩ := (hc k s hs').of (w' := wr) fun j => hb.cell (p := ⟨q, j, none⟩) hab
      obtain ⟨n, hn8, hn, hl1, hl2⟩ := hrs.out s (List.mem_of_getElem? hs')
      obtain ⟨x0, y, z⟩ := s
      simp only at s0 s1 s2 hn hl1 hl2
      subst hn
      have HSK := Lib.hid hs'
      have HRS : Hid (raiseS V ⟨(n : Nat), y, z⟩ = (!z && ((V.beat (n : Nat) y).synced && (V.beat (n : Nat) y).epoch == V.cf.epoch))) := Lib.hid rfl
      have HLK : Hid (∀ W', Below W.heap.size W W' → (Instr.lookup 84 (.map (some b.bm)) (.agg #[.int .i64 (n : Nat), .int .i64 y]) false).run Tryz.prog W' = .ok (.agg #[.int .i64 (V.beat (n : Nat) y).time, .int .i64 (V.beat (n : Nat) y).epoch, .bool (V.beat (n : Nat) y).synced, .int .i64 (V.beat (n : Nat) y).echo]) W') := Lib.hid (fun W' hW => look_beat (HM.out.below hW).beats (w64_nat hn8) (w64_life ⟨hl1, hl2⟩))
      clear hc hs'
      generalize V.beat (n : Nat) y = bt at *
      obtain ⟨bs, hbs⟩ : ∃ bs : List Value, bs = [.int .i64 bt.time, .int .i64 bt.epoch, .bool bt.synced, .int .i64 bt.echo] := ⟨_, rfl⟩
      have hbl : bs.length = 4 := by rw [hbs]; rfl
      have hbone : bs.toArray.all (·.oneCell') = true := by rw [hbs]; simp [Value.oneCell']
      have HLK : Hid (∀ W', Below W.heap.size W W' → (Instr.lookup 84 (.map (some b.bm)) (.agg #[.int .i64 (n : Nat), .int .i64 y]) false).run Tryz.prog W' = .ok (.agg bs.toArray) W') := Lib.hid (fun W' hW => by rw [hbs]; exact HLK.out W' hW)
      have HBS := Lib.hid hbs
      clear hbs
      go_upto_region 4 with (fail)
      have hP := BlkAt.new wr 49 [.int .i64 (n : Nat), .int .i64 y, .bool z]
      replace hb := hb.alloc hb.size (.cells #[.int .i64 (n : Nat), .int .i64 y, .bool z] 49)
      change Code.wp _ _ _ _ (wr.alloc (.cells #[.int .i64 (n : Nat), .int .i64 y, .bool z] 49))
      change BlkAt (wr.alloc (.cells #[.int .i64 (n : Nat), .int .i64 y, .bool z] 49)) _ _ _ at hP
      have hPn := (show wr.heap.size ≤ wr.heap.size from Nat.le_refl _)
      generalize wr.alloc (.cells #[.int .i64 (n : Nat), .int .i64 y, .bool z] 49) = w3 at *
      generalize wr.heap.size = X at hP ⊢
      clear hPn
      clear s0 s1 s2
      have hXs0 : X ≠ w3.drew.heap.size := Nat.ne_of_lt hP.lt
      have hbs0 : W.heap.size ≤ w3.drew.heap.size := hb.size
      have bd : Below w3.heap.size w3 w3.drew := below_drewN (Below.refl _ _) 1
      replace hP := hP.below bd
      replace hb := below_step hb bd
      clear bd
      refine wp_region_noPanic ?_
      refine wp_region_held_drew (S := (fun w' => w'.cell? ⟨X, 0, none⟩ = some (.int .i64 (n : Nat)) ∧ w'.cell? ⟨X, 1, none⟩ = some (.int .i64 y) ∧ w'.cell? ⟨x, 11, none⟩ = some (.map (some b.bm)) ∧ (Instr.lookup 84 (.map (some b.bm)) (.agg #[.int .i64 (n : Nat), .int .i64 y]) false).run Tryz.prog w' = .ok (.agg bs.toArray) w')) (by kernel_rfl) (by exact ⟨hP.cell rfl, hP.cell rfl, HX.out _ hb 11 _ rfl, HLK.out _ hb⟩) (fun hHeld => ?_)
      refine wtk 0 hHeld ?_
      refine wtk 1 hHeld ?_
      refine wtk 2 hHeld ?_
      refine wtk 3 hHeld ?_
      refine wtk 4 hHeld ?_
      refine wtk 5 hHeld ?_
      refine wtk 6 hHeld ?_
      refine wpAnyH_ready (rs := [7]) (by kernel_rfl) (by simp) (AllReadyH.cons (o := ?oq_1_7) ?op_1_7 (fun K hK => ?re_1_7) AllReadyH.nil)
      case op_1_7 => (simp only [List.getElem?_toArray, List.getElem?_cons_succ, List.getElem?_cons_zero]; rfl)
      go_simp
      have hY : BlkAt (w3.alloc (.cells #[.int .i64 0, .int .i64 0, .bool false, .int .i64 0] 102)).drew w3.heap.size 102 [.int .i64 0, .int .i64 0, .bool false, .int .i64 0] := (BlkAt.new w3 102 [.int .i64 0, .int .i64 0, .bool false, .int .i64 0]).drew
      have hPq : BlkAt (w3.alloc (.cells #[.int .i64 0, .int .i64 0, .bool false, .int .i64 0] 102)).drew X 49 [.int .i64 (n : Nat), .int .i64 y, .bool z] := hP.alloc (.cells #[.int .i64 0, .int .i64 0, .bool false, .int .i64 0] 102)
      have hbq : Below W.heap.size W (w3.alloc (.cells #[.int .i64 0, .int .i64 0, .bool false, .int .i64 0] 102)).drew := hb.alloc hb.size (.cells #[.int .i64 0, .int .i64 0, .bool false, .int .i64 0] 102)
      clear hP hb
      have hP := hPq
      have hb := hbq
      have hYn : W.heap.size ≤ w3.heap.size := hbs0
      have hXY : X ≠ w3.heap.size := hXs0
      clear hPq hbq
      generalize (w3.alloc (.cells #[.int .i64 0, .int .i64 0, .bool false, .int .i64 0] 102)).drew = w4 at *
      generalize w3.heap.size = Y at *
      refine hK.out _ _ (by exact ⟨hP.cell rfl, hP.cell rfl, HX.out _ hb 11 _ rfl, HLK.out _ hb⟩) (fun hHeld => ?_)
      clear hK K
      try simp only [Act.put, List.setIfInBounds_toArray, List.set_cons_zero, List.set_cons_succ]
      refine wpAnyH_ready (rs := [8]) (by kernel_rfl) (by simp) (AllReadyH.cons (o := ?oq_1_8) ?op_1_8 (fun K hK => ?re_1_8) AllReadyH.nil)
      case op_1_8 => (simp only [List.getElem?_toArray, List.getElem?_cons_succ, List.getElem?_cons_zero]; rfl)
      rw [if_pos (by rfl)]
      refine wp_store_mid _ _ _ rfl Y 0 bs.toArray rfl rfl (mblk_there2 hY hbl) (by rw [List.size_toArray, hbl]; exact beat_info4) hbone ?_
      simp only [Act.put]
      have hY5 := hY.stored (vs := bs) hbl
      have G5 := grown_setCells Y bs 0 w4
      have hP5 := hP.grown G5 hXY
      have hb5 := hb.grown G5 hb.size (by intro j hj; cases hj; exact hYn)
      clear hY hP hb G5
      have hY := hY5
      have hP := hP5
      have hb := hb5
      clear hY5 hP5 hb5
      change K _ (w4.setCells Y 0 bs)
      generalize w4.setCells Y 0 bs = w5 at *
      refine hK.out _ _ (by exact ⟨hP.cell rfl, hP.cell rfl, HX.out _ hb 11 _ rfl, HLK.out _ hb⟩) (fun hHeld => ?_)
      clear hK K
      try simp only [Act.put, List.setIfInBounds_toArray, List.set_cons_zero, List.set_cons_succ]
      refine wpAnyH_done (by kernel_rfl) ?_ _
      refine NoPanic.normal ?_
      clear hHeld
      have y1 : w5.cell? ⟨Y, 1, none⟩ = some (.int .i64 bt.epoch) := hY.cell (by rw [HBS.out]; rfl)
      have y2 : w5.cell? ⟨Y, 2, none⟩ = some (.bool bt.synced) := hY.cell (by rw [HBS.out]; rfl)
      have c8 : w5.cell? ⟨x, 8, none⟩ = some (.int .i64 V.cf.epoch) := HX.out _ hb 8 _ rfl
      have p2 : w5.cell? ⟨X, 2, none⟩ = some (.bool z) := hP.cell rfl
      clear hXs0 hbs0
      by_cases hq : raiseS V ⟨(n : Nat), y, z⟩ = true
      · have hq2 := hq
        rw [HRS.out] at hq2
        simp only [Bool.and_eq_true, Bool.not_eq_true', beq_iff_eq] at hq2
        obtain ⟨rfl, hq3, hq4⟩ := hq2
        rw [hq3] at y2
        have hq5 : (bt.epoch != V.cf.epoch) = false := by simp [hq4]
        have HF := Lib.hid (find_at HSK.out hq HA.out)
        clear hq hq4 hq3
        go_upto_region 5 with (fail)
        go_quiet (fail)
        have hPd : BlkAt (w5.drewN nq) X 49 [.int .i64 (n : Nat), .int .i64 y, .bool false] := hP
        have hbd := below_drewN hb nq
        clear hP hb y1 y2 c8 p2 hq5 hY
        generalize w5.drewN nq = w6 at *
        have hP := hPd
        have hb := hbd
        clear hPd hbd
        obtain ⟨pe, pL, px, hpq⟩ := okC_parts (syncedC V.cf (n : Nat) y)
        have HR1 : Hid (r = (⟨pe, pL⟩, px == 0)) := Lib.hid (by rw [← HR0.out, raiseM, HF.out]; show okC (syncedC V.cf (n : Nat) y) = _; rw [hpq]; rfl)
        have HPQ := Lib.hid hpq
        clear hpq
        go_upto_region 6 with (fail)
        have hb0 : Below W.heap.size W w6.drew := below_drewN hb 1
        clear hb
        have hb := hb0
        clear hb0
        replace hP : BlkAt w6.drew X 49 [.int .i64 (n : Nat), .int .i64 y, .bool false] := hP
        refine wp_region_noPanic ?_
        refine wp_region_held_drew (S := (fun w' => w'.cell? ⟨X, 0, none⟩ = some (.int .i64 (n : Nat)) ∧ w'.cell? ⟨X, 1, none⟩ = some (.int .i64 y) ∧ w'.cell? ⟨x, 8, none⟩ = some (.int .i64 V.cf.epoch) ∧ w'.cell? ⟨x, 9, none⟩ = some (.slice (some ⟨q, off, none⟩) V.cf.chain.length cap))) (by kernel_rfl) (by exact ⟨hP.cell rfl, hP.cell rfl, HX.out _ hb 8 _ rfl, (HC9.out _ hb).2⟩) (fun hHeld => ?_)
        refine wtk 0 hHeld ?_
        refine wtk 1 hHeld ?_
        refine wtk 2 hHeld ?_
        refine wtk 3 hHeld ?_
        refine wtk 4 hHeld ?_
        refine wtk 5 hHeld ?_
        refine wpAnyH_ready (rs := [6, 10]) (by kernel_rfl) (by simp) (AllReadyH.cons (o := ?oq_2_7_6) ?op_2_7_6 (fun K hK => ?re_2_7_6) (AllReadyH.cons (o := ?oq_2_7_10) ?op_2_7_10 (fun K hK => ?re_2_7_10) AllReadyH.nil))
        case op_2_7_6 => (simp only [List.getElem?_toArray, List.getElem?_cons_succ, List.getElem?_cons_zero]; rfl)
        case op_2_7_10 => (simp only [List.getElem?_toArray, List.getElem?_cons_succ, List.getElem?_cons_zero]; rfl)
        case re_2_7_6 =>
          go_simp
          go_at_call 38
          refine (csynced_m (by exact (HC9.out _ hb).1.1) (w64_nat hn8) (w64_life ⟨hl1, hl2⟩) HPQ.out).mono ?_
          rintro en w7 ⟨RA, Rcap, rfl, hR, b7⟩
          replace hP := hP.below b7
          replace hb := below_step hb b7
          clear b7
          refine hK.out _ _ (by exact ⟨hP.cell rfl, hP.cell rfl, HX.out _ hb 8 _ rfl, (HC9.out _ hb).2⟩) (fun hHeld => ?_)
          clear hK K
          try simp only [Act.put, List.setIfInBounds_toArray, List.set_cons_zero, List.set_cons_succ]
          refine wtk 7 hHeld ?_
          refine wtk 8 hHeld ?_
          refine wtk 9 hHeld ?_
          refine wpAnyH_ready (rs := [10]) (by kernel_rfl) (by simp) (AllReadyH.cons (o := ?oq_2_11_10) ?op_2_11_10 (fun K hK => ?re_2_11_10) AllReadyH.nil)
          case op_2_11_10 => (simp only [List.getElem?_toArray, List.getElem?_cons_succ, List.getElem?_cons_zero]; rfl)
          go_simp
          have hZ : BlkAt (w7.alloc (.cells #[.int .i64 0, .slice none 0 0] 35)) w7.heap.size 35 [.int .i64 0, .slice none 0 0] := BlkAt.new w7 35 [.int .i64 0, .slice none 0 0]
          have ne_hP_hZ : X ≠ w7.heap.size := Nat.ne_of_lt (show X < w7.heap.size from hP.lt)
          replace hP : BlkAt (w7.alloc (.cells #[.int .i64 0, .slice none 0 0] 35)) X 49 [.int .i64 (n : Nat), .int .i64 y, .bool false] := hP.alloc (.cells #[.int .i64 0, .slice none 0 0] 35)
          replace hR : ChainS (w7.alloc (.cells #[.int .i64 0, .slice none 0 0] 35)) (.slice RA pL.length Rcap) pL := hR.alloc (.cells #[.int .i64 0, .slice none 0 0] 35)
          have hZn : W.heap.size ≤ w7.heap.size := hb.size
          replace hb : Below W.heap.size W (w7.alloc (.cells #[.int .i64 0, .slice none 0 0] 35)) := hb.alloc hb.size (.cells #[.int .i64 0, .slice none 0 0] 35)
          generalize (w7.alloc (.cells #[.int .i64 0, .slice none 0 0] 35)) = w8 at *
          generalize w7.heap.size = Z at *
          refine hK.out _ _ (by exact ⟨hP.cell rfl, hP.cell rfl, HX.out _ hb 8 _ rfl, (HC9.out _ hb).2⟩) (fun hHeld => ?_)
          clear hK K
          try simp only [Act.put, List.setIfInBounds_toArray, List.set_cons_zero, List.set_cons_succ]
          refine wpAnyH_ready (rs := [11]) (by kernel_rfl) (by simp) (AllReadyH.cons (o := ?oq_2_12_11) ?op_2_12_11 (fun K hK => ?re_2_12_11) AllReadyH.nil)
          case op_2_12_11 => (simp only [List.getElem?_toArray, List.getElem?_cons_succ, List.getElem?_cons_zero]; rfl)
          have z0 := hZ.cell (i := 0) rfl
          have z1 := hZ.cell (i := 1) rfl
          have zf := hZ.free
          go_simp
          have G1 := grown_setCell w8 Z 0 (.int .i64 pe)
          have G2 := grown_setCell (w8.setCell ⟨Z, 0, none⟩ (.int .i64 pe)) Z 1 (.slice RA pL.length Rcap)
          replace hP := (hP.grown G1 ne_hP_hZ).grown G2 ne_hP_hZ
          replace hR := hR.set2 hZ (.int .i64 pe) (.slice RA pL.length Rcap)
          replace hb := (hb.grown G1 hb.size (by intro j hj; cases hj; exact hZn)).grown G2 (hb.grown G1 hb.size (by intro j hj; cases hj; exact hZn)).size (by intro j hj; cases hj; exact hZn)
          replace hZ := (hZ.set 0 (.int .i64 pe)).set 1 (.slice RA pL.length Rcap)
          clear z0 z1 zf G1 G2
          change BlkAt ((w8.setCell ⟨Z, 0, none⟩ (.int .i64 pe)).setCell ⟨Z, 1, none⟩ (.slice RA pL.length Rcap)) Z 35 [.int .i64 pe, .slice RA pL.length Rcap] at hZ
          change K _ ((w8.setCell ⟨Z, 0, none⟩ (.int .i64 pe)).setCell ⟨Z, 1, none⟩ (.slice RA pL.length Rcap))
          generalize ((w8.setCell ⟨Z, 0, none⟩ (.int .i64 pe)).setCell ⟨Z, 1, none⟩ (.slice RA pL.length Rcap)) = w9 at *
          refine hK.out _ _ (by exact ⟨hP.cell rfl, hP.cell rfl, HX.out _ hb 8 _ rfl, (HC9.out _ hb).2⟩) (fun hHeld => ?_)
          clear hK K
          try simp only [Act.put, List.setIfInBounds_toArray, List.set_cons_zero, List.set_cons_succ]
          refine wtk 12 hHeld ?_
          refine wpAnyH_done (by kernel_rfl) ?_ _
          refine NoPanic.normal ?_
          clear hHeld
          have y0 : w9.cell? ⟨Z, 0, none⟩ = some (.int .i64 pe) := hZ.cell rfl
          have y1 : w9.cell? ⟨Z, 1, none⟩ = some (.slice RA pL.length Rcap) := hZ.cell rfl
          have hD := HD.out.belowAt hb hDs
          have hbw := below_step HB0.out hb
          have hvE := ChainS.set2 hR hD (.int .i64 pe) (.slice RA pL.length Rcap)
          have d0 : w9.cell? ⟨D, 0, none⟩ = some (.int .i64 0) := hD.cell rfl
          have d1 : w9.cell? ⟨D, 1, none⟩ = some (.slice none 0 0) := hD.cell rfl
          have hf := hD.free
          go_wp2_with fail
          obtain ⟨hE, hbE⟩ := fin2 (p := .int .i64 pe) (q := .slice RA pL.length Rcap) hD hbw hDn
          change bodyPost _ _ _ _ _ ((w9.setCell ⟨D, 0, none⟩ (.int .i64 pe)).setCell ⟨D, 1, none⟩ (.slice RA pL.length Rcap))
          generalize (w9.setCell ⟨D, 0, none⟩ (.int .i64 pe)).setCell ⟨D, 1, none⟩ (.slice RA pL.length Rcap) = W9 at *
          clear d0 d1
          have d0 := hE.cell (i := 0) rfl
          have d1 := hE.cell (i := 1) rfl
          exact bodyPost_ret (v := .tuple #[.agg #[.int .i64 pe, .slice RA pL.length Rcap], .bool (px == 0)]) (by simp [results, Tryz.results47, go_sem, d0, d1] <;> rfl) rfl ⟨_, _, by (rw [HR1.out] <;> try rfl), by rw [HR1.out]; exact hvE, hbE⟩
        case re_2_7_10 =>
          go_simp
          have hZ : BlkAt (w6.alloc (.cells #[.int .i64 0, .slice none 0 0] 35)).drew w6.heap.size 35 [.int .i64 0, .slice none 0 0] := BlkAt.new w6 35 [.int .i64 0, .slice none 0 0]
          have ne_hP_hZ : X ≠ w6.heap.size := Nat.ne_of_lt (show X < w6.heap.size from hP.lt)
          replace hP : BlkAt (w6.alloc (.cells #[.int .i64 0, .slice none 0 0] 35)).drew X 49 [.int .i64 (n : Nat), .int .i64 y, .bool false] := hP.alloc (.cells #[.int .i64 0, .slice none 0 0] 35)
          have hZn : W.heap.size ≤ w6.heap.size := hb.size
          replace hb : Below W.heap.size W (w6.alloc (.cells #[.int .i64 0, .slice none 0 0] 35)).drew := hb.alloc hb.size (.cells #[.int .i64 0, .slice none 0 0] 35)
          generalize (w6.alloc (.cells #[.int .i64 0, .slice none 0 0] 35)).drew = w7 at *
          generalize w6.heap.size = Z at *
          refine hK.out _ _ (by exact ⟨hP.cell rfl, hP.cell rfl, HX.out _ hb 8 _ rfl, (HC9.out _ hb).2⟩) (fun hHeld => ?_)
          clear hK K
          try simp only [Act.put, List.setIfInBounds_toArray, List.set_cons_zero, List.set_cons_succ]
          refine wpAnyH_ready (rs := [6]) (by kernel_rfl) (by simp) (AllReadyH.cons (o := ?oq_2_14_6) ?op_2_14_6 (fun K hK => ?re_2_14_6) AllReadyH.nil)
          case op_2_14_6 => (simp only [List.getElem?_toArray, List.getElem?_cons_succ, List.getElem?_cons_zero]; rfl)
          go_simp
          go_at_call 38
          refine (csynced_m (by exact (HC9.out _ hb).1.1) (w64_nat hn8) (w64_life ⟨hl1, hl2⟩) HPQ.out).mono ?_
          rintro en w8 ⟨RA, Rcap, rfl, hR, b7⟩
          replace hP := hP.below b7
          replace hZ := hZ.below b7
          replace hb := below_step hb b7
          clear b7
          refine hK.out _ _ (by exact ⟨hP.cell rfl, hP.cell rfl, HX.out _ hb 8 _ rfl, (HC9.out _ hb).2⟩) (fun hHeld => ?_)
          clear hK K
          try simp only [Act.put, List.setIfInBounds_toArray, List.set_cons_zero, List.set_cons_succ]
          refine wtk 7 hHeld ?_
          refine wtk 8 hHeld ?_
          refine wtk 9 hHeld ?_
          refine wpAnyH_ready (rs := [11]) (by kernel_rfl) (by simp) (AllReadyH.cons (o := ?oq_2_18_11) ?op_2_18_11 (fun K hK => ?re_2_18_11) AllReadyH.nil)
          case op_2_18_11 => (simp only [List.getElem?_toArray, List.getElem?_cons_succ, List.getElem?_cons_zero]; rfl)
          have z0 := hZ.cell (i := 0) rfl
          have z1 := hZ.cell (i := 1) rfl
          have zf := hZ.free
          go_simp
          have G1 := grown_setCell w8 Z 0 (.int .i64 pe)
          have G2 := grown_setCell (w8.setCell ⟨Z, 0, none⟩ (.int .i64 pe)) Z 1 (.slice RA pL.length Rcap)
          replace hP := (hP.grown G1 ne_hP_hZ).grown G2 ne_hP_hZ
          replace hR := hR.set2 hZ (.int .i64 pe) (.slice RA pL.length Rcap)
          replace hb := (hb.grown G1 hb.size (by intro j hj; cases hj; exact hZn)).grown G2 (hb.grown G1 hb.size (by intro j hj; cases hj; exact hZn)).size (by intro j hj; cases hj; exact hZn)
          replace hZ := (hZ.set 0 (.int .i64 pe)).set 1 (.slice RA pL.length Rcap)
          clear z0 z1 zf G1 G2
          change BlkAt ((w8.setCell ⟨Z, 0, none⟩ (.int .i64 pe)).setCell ⟨Z, 1, none⟩ (.slice RA pL.length Rcap)) Z 35 [.int .i64 pe, .slice RA pL.length Rcap] at hZ
          change K _ ((w8.setCell ⟨Z, 0, none⟩ (.int .i64 pe)).setCell ⟨Z, 1, none⟩ (.slice RA pL.length Rcap))
          generalize ((w8.setCell ⟨Z, 0, none⟩ (.int .i64 pe)).setCell ⟨Z, 1, none⟩ (.slice RA pL.length Rcap)) = w9 at *
          refine hK.out _ _ (by exact ⟨hP.cell rfl, hP.cell rfl, HX.out _ hb 8 _ rfl, (HC9.out _ hb).2⟩) (fun hHeld => ?_)
          clear hK K
          try simp only [Act.put, List.setIfInBounds_toArray, List.set_cons_zero, List.set_cons_succ]
          refine wtk 12 hHeld ?_
          refine wpAnyH_done (by kernel_rfl) ?_ _
          refine NoPanic.normal ?_
          clear hHeld
          have y0 : w9.cell? ⟨Z, 0, none⟩ = some (.int .i64 pe) := hZ.cell rfl
          have y1 : w9.cell? ⟨Z, 1, none⟩ = some (.slice RA pL.length Rcap) := hZ.cell rfl
          have hD := HD.out.belowAt hb hDs
          have hbw := below_step HB0.out hb
          have hvE := ChainS.set2 hR hD (.int .i64 pe) (.slice RA pL.length Rcap)
          have d0 : w9.cell? ⟨D, 0, none⟩ = some (.int .i64 0) := hD.cell rfl
          have d1 : w9.cell? ⟨D, 1, none⟩ = some (.slice none 0 0) := hD.cell rfl
          have hf := hD.free
          go_wp2_with fail
          obtain ⟨hE, hbE⟩ := fin2 (p := .int .i64 pe) (q := .slice RA pL.length Rcap) hD hbw hDn
          change bodyPost _ _ _ _ _ ((w9.setCell ⟨D, 0, none⟩ (.int .i64 pe)).setCell ⟨D, 1, none⟩ (.slice RA pL.length Rcap))
          generalize (w9.setCell ⟨D, 0, none⟩ (.int .i64 pe)).setCell ⟨D, 1, none⟩ (.slice RA pL.length Rcap) = W9 at *
          clear d0 d1
          have d0 := hE.cell (i := 0) rfl
          have d1 := hE.cell (i := 1) rfl
          exact bodyPost_ret (v := .tuple #[.agg #[.int .i64 pe, .slice RA pL.length Rcap], .bool (px == 0)]) (by simp [results, Tryz.results47, go_sem, d0, d1] <;> rfl) rfl ⟨_, _, by (rw [HR1.out] <;> try rfl), by rw [HR1.out]; exact hvE, hbE⟩
      · have hq2 : raiseS V ⟨(n : Nat), y, z⟩ = false := by simpa using hq
        have HA2 : Hid (∀ j s, j < k + 1 → V.cf.chain[j]? = some s → raiseS V s = false) := Lib.hid (fun j s hj hs => by
          rcases Nat.lt_or_ge j k with h | h
          · exact HA.out j s h hs
          · obtain rfl : j = k := by omega
            rw [HSK.out] at hs
            cases hs
            exact hq2)
        have HRS2 := Lib.hid hq2
        clear hq hq2
        go_upto_region 5 with (fail)
        cases z with
        | true =>
          go_quiet (fail)
          have hbd := Lib.hid (below_drewN hb nq)
          clear hP hb y1 y2 c8 p2 hY
          go_wp2_with fail
          go_roundw
          case rel => exact ⟨k + 1, by omega, by go_num, HA2.out, hbd.out⟩
          case measure => simp [intOf]; omega
        | false =>
          cases hsy : bt.synced with
          | false =>
            rw [hsy] at y2
            go_quiet (fail)
            have hbd := Lib.hid (below_drewN hb nq)
            clear hP hb y1 y2 c8 p2 hY
            go_wp2_with fail
            go_roundw
            case rel => exact ⟨k + 1, by omega, by go_num, HA2.out, hbd.out⟩
            case measure => simp [intOf]; omega
          | true =>
            rw [hsy] at y2
            have hq5 : (bt.epoch != V.cf.epoch) = true := by
              have h1 := HRS2.out
              rw [HRS.out, hsy] at h1
              simpa using h1
            go_quiet (fail)
            have hbd := Lib.hid (below_drewN hb nq)
            clear hP hb y1 y2 c8 p2 hY hq5
            go_wp2_with fail
            go_roundw
            case rel => exact ⟨k + 1, by omega, by go_num, HA2.out, hbd.out⟩
            case measure => simp [intOf]; omega
    · have HRN : Hid (r = (⟨0, []⟩, false)) := Lib.hid (by
        rw [← HR0.out, raiseM, show V.cf.chain.find? (raiseS V) = none from ?_]
        rw [List.find?_eq_none]
        intro s hs
        obtain ⟨j, hj⟩ := List.getElem?_of_mem hs
        have hjl := (List.getElem?_eq_some_iff.1 hj).1
        rw [HA.out j s (by omega) hj]
        simp)
      have hNil : ChainS wr (.slice none 0 0) [] := ChainS.nil wr
      have hD := HD.out.belowAt hb hDs
      have hbw := below_step HB0.out hb
      have hvE := ChainS.set2 hNil hD (.int .i64 0) (.slice none 0 0)
      have d0 : wr.cell? ⟨D, 0, none⟩ = some (.int .i64 0) := hD.cell rfl
      have d1 : wr.cell? ⟨D, 1, none⟩ = some (.slice none 0 0) := hD.cell rfl
      have hf := hD.free
      go_wp2_with fail
      obtain ⟨hE, hbE⟩ := fin2 (p := .int .i64 0) (q := .slice none 0 0) hD hbw hDn
      change bodyPost _ _ _ _ _ ((wr.setCell ⟨D, 0, none⟩ (.int .i64 0)).setCell ⟨D, 1, none⟩ (.slice none 0 0))
      generalize (wr.setCell ⟨D, 0, none⟩ (.int .i64 0)).setCell ⟨D, 1, none⟩ (.slice none 0 0) = W9 at *
      clear d0 d1
      have d0 := hE.cell (i := 0) rfl
      have d1 := hE.cell (i := 1) rfl
      exact bodyPost_ret (v := .tuple #[.agg #[.int .i64 0, .slice none 0 0], .bool false]) (by simp [results, Tryz.results47, go_sem, d0, d1] <;> rfl) rfl ⟨none, 0, by (rw [HRN.out] <;> try rfl), by rw [HRN.out]; exact hvE, hbE⟩
end Go.Proofs.YtomfmejodmfioaaGreat
namespace Go.Proofs.YtomfmejodmfioaaGreat
open Go.RowKit Go.Maps Go.ChangeShapes Go.WideShapes Go.Joins Go.Deep
set_option linter.unusedVariables false


theorem MOk.life {V : MstV} (h : MOk V) (n : Int) : W64 (V.life n) := by
  unfold MstV.life
  cases hl : V.lives[n.toNat]? with
  | none => exact W64.mk (by decide) (by decide)
  | some l => exact h.lives l (List.mem_of_getElem? hl)
theorem some_first {α : Type} {f : Nat → Option α} : ∀ {m k : Nat} {c : α}, k < m → f k = some c → (∀ j, j < k → f j = none) → (List.range m).findSome? f = some c := by
  intro m k c hk hc hA
  obtain ⟨d, rfl⟩ : ∃ d, m = k + 1 + d := ⟨m - (k + 1), by omega⟩
  rw [List.range_add, List.findSome?_append]
  have h1 : (List.range (k + 1)).findSome? f = some c := by
    rw [List.range_succ, List.findSome?_append]
    have : (List.range k).findSome? f = none := by
      rw [List.findSome?_eq_none_iff]
      intro x hx
      exact hA x (List.mem_range.1 hx)
    rw [this]
    simp [hc]
  rw [h1]
  rfl
theorem some_never {α : Type} {f : Nat → Option α} {m : Nat} (hA : ∀ j, j < m → f j = none) : (List.range m).findSome? f = none := by
  rw [List.findSome?_eq_none_iff]
  intro x hx
  exact hA x (List.mem_range.1 hx)
theorem lives_low {B x N : Nat} {w : World} {b : MBlk} {V : MstV} {l : List UInt8} (h : MAt B w x b N V l) {k : Nat} (hk : k < 8) : w.cell? ⟨x, 12 + k, none⟩ = some (.int .i64 (V.life k)) := by
  obtain ⟨A, cap, hC, hX⟩ := h.cells
  exact hX.cell (mcells_life h.ok.len hk)
set_option maxRecDepth 100000 in
set_option maxHeartbeats 4000000 in

theorem mgrow_any {B x N : Nat} {w : World} {b : MBlk} {V : MstV} {l : List UInt8} (h : MAt B w x b N V l) {now : Int} (ht : TOk now) {r : ConfV × Bool} (hr : growM V now = r) :
    Calls Tryz.prog 48 #[.pointer (some ⟨x, 0, none⟩), .int .i64 now] w fun e w' => MConf w w' e r := by
  have HR0 := Lib.hid hr
  obtain ⟨m, hm, hm8⟩ : ∃ m : Nat, V.s.nodes = m ∧ m ≤ 8 := by
    have := h.ok.susp
    exact ⟨V.s.nodes.toNat, by omega, by omega⟩
  have hsu := h.ok.susp
  clear hr
  go_enter Tryz.func48, Tryz.ntmps48
  go_upto_region 1 with (fail)
  have hD : BlkAt (w.alloc (.cells #[.int .i64 0, .slice none 0 0] 35)) w.heap.size 35 [.int .i64 0, .slice none 0 0] := BlkAt.new w 35 [.int .i64 0, .slice none 0 0]
  have hb : Below w.heap.size w (w.alloc (.cells #[.int .i64 0, .slice none 0 0] 35)) := (Below.refl w.heap.size w).alloc (Nat.le_refl _) _
  have hWs : w.heap.size + 1 ≤ (w.alloc (.cells #[.int .i64 0, .slice none 0 0] 35)).heap.size := by simp
  change Code.wp _ _ _ _ (w.alloc (.cells #[.int .i64 0, .slice none 0 0] 35))
  generalize w.alloc (.cells #[.int .i64 0, .slice none 0 0] 35) = W at *
  obtain ⟨D, hDD⟩ : ∃ D, D = w.heap.size := ⟨_, rfl⟩
  have hDn : w.heap.size ≤ D := by omega
  rw [← hDD] at hD ⊢
  have HM := Lib.hid (h.below hb)
  have HB0 := Lib.hid hb
  have HD := Lib.hid hD
  have hDs : D < W.heap.size := hD.lt
  clear hDD hWs hD hb h
  have hb := Below.refl W.heap.size W
  have HX := Lib.hid HM.out.lows
  obtain ⟨A, cap, hC, c8, c9⟩ := HM.out.conf
  have HC9 : Hid (∀ W', Below W.heap.size W W' → ChainS W' (.slice A V.cf.chain.length cap) V.cf.chain ∧ W'.cell? ⟨x, 9, none⟩ = some (.slice A V.cf.chain.length cap)) := Lib.hid (fun W' hW => ⟨hC.below hW, (hW.cell (p := ⟨x, _, none⟩) HM.out.lt).trans c9⟩)
  clear c8 hC c9
  have c0 : W.cell? ⟨x, 0, none⟩ = some (.int .i64 (m : Nat)) := by rw [← hm]; exact HX.out _ hb 0 _ rfl
  have HNM : Hid (V.s.nodes.toNat = m) := Lib.hid (by omega)
  go_wp2_with fail
  clear c0
  go_loopw [17] (fun i wr => ∃ (k : Nat), k ≤ m ∧ i = .int .i64 k ∧ Aside (∀ j, j < k → growAt V now j = none) ∧ Below W.heap.size W wr) (fun i _ => m - (intOf i).toNat)
  case atStart => exact ⟨0, Nat.zero_le _, rfl, fun j hj => by omega, hb⟩
  case round =>
    obtain ⟨k, hk, rfl, HA, hbr⟩ := hrel
    clear hb
    have hb := hbr
    clear hbr
    by_cases hlt' : k < m
    · have hk8 : k < 8 := by omega
      have hk8' : (k : Int) < 8 := by omega
      have cl := lives_low (HM.out.below hb) hk8
      have hyw := HM.out.ok.life (k : Nat)
      have HG0 : Hid (growAt V now k = (match V.beats (k : Nat) (V.life (k : Nat)) with | none => none | some b => if (V.sat (k : Nat) (V.life (k : Nat)) || decide (V.s.suspect < now - b.time)) = true then none else if (joinC V.cf (k : Nat) (V.life (k : Nat))).2 = 0 then some (joinC V.cf (k : Nat) (V.life (k : Nat))).1 else none)) := Lib.hid rfl
      have HLS : Hid (∀ W', Below W.heap.size W W' → ∀ M, (Instr.lookup 85 (.map (some b.sm)) (.agg #[.int .i64 (k : Nat), .int .i64 (V.life (k : Nat))]) false).run Tryz.prog (W'.drewN M) = .ok (.bool (V.sat (k : Nat) (V.life (k : Nat)))) (W'.drewN M)) := Lib.hid (fun W' hW M => look_sat ((HM.out.below hW).sat.drewN M) (w64_nat hk8) hyw)
      have HLB : Hid (∀ W', Below W.heap.size W W' → (Instr.lookup 84 (.map (some b.bm)) (.agg #[.int .i64 (k : Nat), .int .i64 (V.life (k : Nat))]) true).run Tryz.prog W' = .ok (.tuple #[.agg #[.int .i64 ((V.beats (k : Nat) (V.life (k : Nat))).getD beatZero).time, .int .i64 ((V.beats (k : Nat) (V.life (k : Nat))).getD beatZero).epoch, .bool ((V.beats (k : Nat) (V.life (k : Nat))).getD beatZero).synced, .int .i64 ((V.beats (k : Nat) (V.life (k : Nat))).getD beatZero).echo], .bool (V.beats (k : Nat) (V.life (k : Nat))).isSome]) W') := Lib.hid (fun W' hW => look_beat_ok (HM.out.below hW).beats (w64_nat hk8) hyw)
      have hbt := (HM.out.ok.beat (k : Nat) (V.life (k : Nat))).1
      have hbt : TOk ((V.beats (k : Nat) (V.life (k : Nat))).getD beatZero).time := hbt
      generalize V.life (k : Nat) = y at *
      obtain ⟨bt, hbtd⟩ : ∃ bt, bt = (V.beats (k : Nat) y).getD beatZero := ⟨_, rfl⟩
      obtain ⟨hd, hhd⟩ : ∃ hd, hd = (V.beats (k : Nat) y).isSome := ⟨_, rfl⟩
      rw [← hbtd, ← hhd] at HLB
      rw [← hbtd] at hbt
      obtain ⟨bs, hbs⟩ : ∃ bs : List Value, bs = [.int .i64 bt.time, .int .i64 bt.epoch, .bool bt.synced, .int .i64 bt.echo] := ⟨_, rfl⟩
      have hbl : bs.length = 4 := by rw [hbs]; rfl
      have hbone : bs.toArray.all (·.oneCell') = true := by rw [hbs]; simp [Value.oneCell']
      have HLK : Hid (∀ W', Below W.heap.size W W' → (Instr.lookup 84 (.map (some b.bm)) (.agg #[.int .i64 (k : Nat), .int .i64 y]) true).run Tryz.prog W' = .ok (.tuple #[.agg bs.toArray, .bool hd]) W') := Lib.hid (fun W' hW => by rw [hbs]; exact HLB.out W' hW)
      have HBS := Lib.hid hbs
      have HBT := Lib.hid hbtd
      have HHD := Lib.hid hhd
      clear hbs hbtd hhd
      go_upto_region 5 with (fail)
      have hP := BlkAt.new wr 42 [.int .i64 (k : Nat), .int .i64 y]
      replace hb := hb.alloc hb.size (.cells #[.int .i64 (k : Nat), .int .i64 y] 42)
      change Code.wp _ _ _ _ (wr.alloc (.cells #[.int .i64 (k : Nat), .int .i64 y] 42))
      change BlkAt (wr.alloc (.cells #[.int .i64 (k : Nat), .int .i64 y] 42)) _ _ _ at hP
      have hPn := (show wr.heap.size ≤ wr.heap.size from Nat.le_refl _)
      generalize wr.alloc (.cells #[.int .i64 (k : Nat), .int .i64 y] 42) = w3 at *
      generalize wr.heap.size = X at hP ⊢
      clear hPn
      clear cl
      have bd : Below w3.heap.size w3 w3.drew := below_drewN (Below.refl _ _) 1
      replace hP := hP.below bd
      replace hb := below_step hb bd
      clear bd
      refine wp_region_noPanic ?_
      refine wp_region_held_drew (S := (fun w' => w'.cell? ⟨X, 0, none⟩ = some (.int .i64 (k : Nat)) ∧ w'.cell? ⟨X, 1, none⟩ = some (.int .i64 y) ∧ w'.cell? ⟨x, 11, none⟩ = some (.map (some b.bm)) ∧ (Instr.lookup 84 (.map (some b.bm)) (.agg #[.int .i64 (k : Nat), .int .i64 y]) true).run Tryz.prog w' = .ok (.tuple #[.agg bs.toArray, .bool hd]) w')) (by kernel_rfl) (by exact ⟨hP.cell rfl, hP.cell rfl, HX.out _ hb 11 _ rfl, HLK.out _ hb⟩) (fun hHeld => ?_)
      refine wtk 0 hHeld ?_
      refine wtk 1 hHeld ?_
      refine wtk 2 hHeld ?_
      refine wtk 3 hHeld ?_
      refine wtk 4 hHeld ?_
      refine wtk 5 hHeld ?_
      refine wtk 6 hHeld ?_
      refine wtk 7 hHeld ?_
      refine wtk 8 hHeld ?_
      refine wpAnyH_ready (rs := [9]) (by kernel_rfl) (by simp) (AllReadyH.cons (o := ?oq_1_9) ?op_1_9 (fun K hK => ?re_1_9) AllReadyH.nil)
      case op_1_9 => (simp only [List.getElem?_toArray, List.getElem?_cons_succ, List.getElem?_cons_zero]; rfl)
      go_simp
      have hY : BlkAt (w3.alloc (.cells #[.int .i64 0, .int .i64 0, .bool false, .int .i64 0] 102)).drew w3.heap.size 102 [.int .i64 0, .int .i64 0, .bool false, .int .i64 0] := BlkAt.new w3 102 [.int .i64 0, .int .i64 0, .bool false, .int .i64 0]
      have ne_hP_hY : X ≠ w3.heap.size := Nat.ne_of_lt (show X < w3.heap.size from hP.lt)
      replace hP : BlkAt (w3.alloc (.cells #[.int .i64 0, .int .i64 0, .bool false, .int .i64 0] 102)).drew X 42 [.int .i64 (k : Nat), .int .i64 y] := hP.alloc (.cells #[.int .i64 0, .int .i64 0, .bool false, .int .i64 0] 102)
      have hYn : W.heap.size ≤ w3.heap.size := hb.size
      replace hb : Below W.heap.size W (w3.alloc (.cells #[.int .i64 0, .int .i64 0, .bool false, .int .i64 0] 102)).drew := hb.alloc hb.size (.cells #[.int .i64 0, .int .i64 0, .bool false, .int .i64 0] 102)
      generalize (w3.alloc (.cells #[.int .i64 0, .int .i64 0, .bool false, .int .i64 0] 102)).drew = w4 at *
      generalize w3.heap.size = Y at *
      refine hK.out _ _ (by exact ⟨hP.cell rfl, hP.cell rfl, HX.out _ hb 11 _ rfl, HLK.out _ hb⟩) (fun hHeld => ?_)
      clear hK K
      try simp only [Act.put, List.setIfInBounds_toArray, List.set_cons_zero, List.set_cons_succ]
      refine wpAnyH_ready (rs := [10]) (by kernel_rfl) (by simp) (AllReadyH.cons (o := ?oq_1_10) ?op_1_10 (fun K hK => ?re_1_10) AllReadyH.nil)
      case op_1_10 => (simp only [List.getElem?_toArray, List.getElem?_cons_succ, List.getElem?_cons_zero]; rfl)
      rw [if_pos (by rfl)]
      refine wp_store_mid _ _ _ rfl Y 0 bs.toArray rfl rfl (mblk_there2 hY hbl) (by rw [List.size_toArray, hbl]; exact beat_info4) hbone ?_
      simp only [Act.put]
      have hY5 := hY.stored (vs := bs) hbl
      have G5 := grown_setCells Y bs 0 w4
      have hP5 := hP.grown G5 ne_hP_hY
      have hb5 := hb.grown G5 hb.size (by intro j hj; cases hj; exact hYn)
      clear hY hP hb G5
      have hY := hY5
      have hP := hP5
      have hb := hb5
      clear hY5 hP5 hb5
      change K _ (w4.setCells Y 0 bs)
      generalize w4.setCells Y 0 bs = w5 at *
      refine hK.out _ _ (by exact ⟨hP.cell rfl, hP.cell rfl, HX.out _ hb 11 _ rfl, HLK.out _ hb⟩) (fun hHeld => ?_)
      clear hK K
      try simp only [Act.put, List.setIfInBounds_toArray, List.set_cons_zero, List.set_cons_succ]
      refine wtk 11 hHeld ?_
      refine wpAnyH_done (by kernel_rfl) ?_ _
      refine NoPanic.normal ?_
      clear hHeld
      go_upto_region 6 with (fail)
      have y0 : w5.cell? ⟨Y, 0, none⟩ = some (.int .i64 bt.time) := hY.cell (by rw [HBS.out]; rfl)
      have p0 : w5.cell? ⟨X, 0, none⟩ = some (.int .i64 (k : Nat)) := hP.cell rfl
      have p1 : w5.cell? ⟨X, 1, none⟩ = some (.int .i64 y) := hP.cell rfl
      have c4 : w5.cell? ⟨x, 4, none⟩ = some (.int .i64 V.s.suspect) := HX.out _ hb 4 _ rfl
      have c20 : w5.cell? ⟨x, 20, none⟩ = some (.map (some b.sm)) := HX.out _ hb 20 _ rfl
      have hls := HLS.out _ hb
      unfold TOk at hbt ht
      cases hbe : V.beats (k : Nat) y with
      | none =>
        obtain rfl : hd = false := by rw [HHD.out, hbe]; rfl
        have hGA : growAt V now k = none := by rw [HG0.out, hbe]
        go_quiet (fail)
        have HA2 : Hid (∀ j, j < k + 1 → growAt V now j = none) := Lib.hid (fun j hj => by
          rcases Nat.lt_or_ge j k with h | h
          · exact HA.out j h
          · obtain rfl : j = k := by omega
            exact hGA)
        have HB2 := Lib.hid (below_drewN hb nq)
        clear hY hP hb y0 p0 p1 c4 c20 hls hGA
        go_wp2_with fail
        go_roundw
        case rel => exact ⟨k + 1, by omega, by go_num, HA2.out, HB2.out⟩
        case measure => simp [intOf]; omega
      | some bt' =>
        obtain rfl : hd = true := by rw [HHD.out, hbe]; rfl
        obtain rfl : bt = bt' := by rw [HBT.out, hbe]; rfl
        rw [hbe] at HG0
        simp only at HG0
        cases hst : V.sat (k : Nat) y with
        | true =>
          rw [hst] at hls HG0
          have hGA : growAt V now k = none := by rw [HG0.out]; rfl
          go_quiet (fail)
          have HA2 : Hid (∀ j, j < k + 1 → growAt V now j = none) := Lib.hid (fun j hj => by
            rcases Nat.lt_or_ge j k with h | h
            · exact HA.out j h
            · obtain rfl : j = k := by omega
              exact hGA)
          have HB2 := Lib.hid (below_drewN hb nq)
          clear hY hP hb y0 p0 p1 c4 c20 hls hGA
          go_wp2_with fail
          go_roundw
          case rel => exact ⟨k + 1, by omega, by go_num, HA2.out, HB2.out⟩
          case measure => simp [intOf]; omega
        | false =>
          rw [hst] at hls HG0
          by_cases hla : V.s.suspect < now - bt.time
          · have hGA : growAt V now k = none := by rw [HG0.out, if_pos (by simpa using hla)]
            go_quiet (fail)
            have HA2 : Hid (∀ j, j < k + 1 → growAt V now j = none) := Lib.hid (fun j hj => by
              rcases Nat.lt_or_ge j k with h | h
              · exact HA.out j h
              · obtain rfl : j = k := by omega
                exact hGA)
            have HB2 := Lib.hid (below_drewN hb nq)
            clear hY hP hb y0 p0 p1 c4 c20 hls hGA
            go_wp2_with fail
            go_roundw
            case rel => exact ⟨k + 1, by omega, by go_num, HA2.out, HB2.out⟩
            case measure => simp [intOf]; omega
          · have HG1 : Hid (growAt V now k = if (joinC V.cf (k : Nat) y).2 = 0 then some (joinC V.cf (k : Nat) y).1 else none) := Lib.hid (by rw [HG0.out, if_neg (by simpa using hla)])
            go_quiet (fail)
            have hPd : BlkAt (w5.drewN nq) X 42 [.int .i64 (k : Nat), .int .i64 y] := hP
            have hbd := below_drewN hb nq
            clear hP hb y0 p0 p1 c4 c20 hls hY
            generalize w5.drewN nq = w6 at *
            have hP := hPd
            have hb := hbd
            clear hPd hbd
            obtain ⟨pe, pL, px, hpq⟩ := okC_parts (joinC V.cf (k : Nat) y)
            have HG : Hid (growAt V now k = if px = 0 then some ⟨pe, pL⟩ else none) := Lib.hid (by rw [HG1.out, hpq])
            have HPQ := Lib.hid hpq
            clear hpq
            go_upto_region 7 with (fail)
            have hb0 : Below W.heap.size W w6.drew := below_drewN hb 1
            clear hb
            have hb := hb0
            clear hb0
            replace hP : BlkAt w6.drew X 42 [.int .i64 (k : Nat), .int .i64 y] := hP
            refine wp_region_noPanic ?_
            refine wp_region_held_drew (S := (fun w' => w'.cell? ⟨X, 0, none⟩ = some (.int .i64 (k : Nat)) ∧ w'.cell? ⟨X, 1, none⟩ = some (.int .i64 y) ∧ w'.cell? ⟨x, 8, none⟩ = some (.int .i64 V.cf.epoch) ∧ w'.cell? ⟨x, 9, none⟩ = some (.slice A V.cf.chain.length cap))) (by kernel_rfl) (by exact ⟨hP.cell rfl, hP.cell rfl, HX.out _ hb 8 _ rfl, (HC9.out _ hb).2⟩) (fun hHeld => ?_)
            refine wtk 0 hHeld ?_
            refine wtk 1 hHeld ?_
            refine wtk 2 hHeld ?_
            refine wtk 3 hHeld ?_
            refine wtk 4 hHeld ?_
            refine wpAnyH_ready (rs := [5, 9]) (by kernel_rfl) (by simp) (AllReadyH.cons (o := ?oq_2_6_5) ?op_2_6_5 (fun K hK => ?re_2_6_5) (AllReadyH.cons (o := ?oq_2_6_9) ?op_2_6_9 (fun K hK => ?re_2_6_9) AllReadyH.nil))
            case op_2_6_5 => (simp only [List.getElem?_toArray, List.getElem?_cons_succ, List.getElem?_cons_zero]; rfl)
            case op_2_6_9 => (simp only [List.getElem?_toArray, List.getElem?_cons_succ, List.getElem?_cons_zero]; rfl)
            case re_2_6_5 =>
              go_simp
              go_at_call 40
              refine (cjoin_m (by exact (HC9.out _ hb).1.1) (w64_nat hk8) hyw HPQ.out).mono ?_
              rintro en w7 ⟨RA, Rcap, rfl, hR, b7⟩
              replace hP := hP.below b7
              replace hb := below_step hb b7
              clear b7
              refine hK.out _ _ (by exact ⟨hP.cell rfl, hP.cell rfl, HX.out _ hb 8 _ rfl, (HC9.out _ hb).2⟩) (fun hHeld => ?_)
              clear hK K
              try simp only [Act.put, List.setIfInBounds_toArray, List.set_cons_zero, List.set_cons_succ]
              refine wtk 6 hHeld ?_
              refine wtk 7 hHeld ?_
              refine wtk 8 hHeld ?_
              refine wpAnyH_ready (rs := [9]) (by kernel_rfl) (by simp) (AllReadyH.cons (o := ?oq_2_10_9) ?op_2_10_9 (fun K hK => ?re_2_10_9) AllReadyH.nil)
              case op_2_10_9 => (simp only [List.getElem?_toArray, List.getElem?_cons_succ, List.getElem?_cons_zero]; rfl)
              go_simp
              have hZ : BlkAt (w7.alloc (.cells #[.int .i64 0, .slice none 0 0] 35)) w7.heap.size 35 [.int .i64 0, .slice none 0 0] := BlkAt.new w7 35 [.int .i64 0, .slice none 0 0]
              have ne_hP_hZ : X ≠ w7.heap.size := Nat.ne_of_lt (show X < w7.heap.size from hP.lt)
              replace hP : BlkAt (w7.alloc (.cells #[.int .i64 0, .slice none 0 0] 35)) X 42 [.int .i64 (k : Nat), .int .i64 y] := hP.alloc (.cells #[.int .i64 0, .slice none 0 0] 35)
              replace hR : ChainS (w7.alloc (.cells #[.int .i64 0, .slice none 0 0] 35)) (.slice RA pL.length Rcap) pL := hR.alloc (.cells #[.int .i64 0, .slice none 0 0] 35)
              have hZn : W.heap.size ≤ w7.heap.size := hb.size
              replace hb : Below W.heap.size W (w7.alloc (.cells #[.int .i64 0, .slice none 0 0] 35)) := hb.alloc hb.size (.cells #[.int .i64 0, .slice none 0 0] 35)
              generalize (w7.alloc (.cells #[.int .i64 0, .slice none 0 0] 35)) = w8 at *
              generalize w7.heap.size = Z at *
              refine hK.out _ _ (by exact ⟨hP.cell rfl, hP.cell rfl, HX.out _ hb 8 _ rfl, (HC9.out _ hb).2⟩) (fun hHeld => ?_)
              clear hK K
              try simp only [Act.put, List.setIfInBounds_toArray, List.set_cons_zero, List.set_cons_succ]
              refine wpAnyH_ready (rs := [10]) (by kernel_rfl) (by simp) (AllReadyH.cons (o := ?oq_2_11_10) ?op_2_11_10 (fun K hK => ?re_2_11_10) AllReadyH.nil)
              case op_2_11_10 => (simp only [List.getElem?_toArray, List.getElem?_cons_succ, List.getElem?_cons_zero]; rfl)
              have z0 := hZ.cell (i := 0) rfl
              have z1 := hZ.cell (i := 1) rfl
              have zf := hZ.free
              go_simp
              have G1 := grown_setCell w8 Z 0 (.int .i64 pe)
              have G2 := grown_setCell (w8.setCell ⟨Z, 0, none⟩ (.int .i64 pe)) Z 1 (.slice RA pL.length Rcap)
              replace hP := (hP.grown G1 ne_hP_hZ).grown G2 ne_hP_hZ
              replace hR := hR.set2 hZ (.int .i64 pe) (.slice RA pL.length Rcap)
              replace hb := (hb.grown G1 hb.size (by intro j hj; cases hj; exact hZn)).grown G2 (hb.grown G1 hb.size (by intro j hj; cases hj; exact hZn)).size (by intro j hj; cases hj; exact hZn)
              replace hZ := (hZ.set 0 (.int .i64 pe)).set 1 (.slice RA pL.length Rcap)
              clear z0 z1 zf G1 G2
              change BlkAt ((w8.setCell ⟨Z, 0, none⟩ (.int .i64 pe)).setCell ⟨Z, 1, none⟩ (.slice RA pL.length Rcap)) Z 35 [.int .i64 pe, .slice RA pL.length Rcap] at hZ
              change K _ ((w8.setCell ⟨Z, 0, none⟩ (.int .i64 pe)).setCell ⟨Z, 1, none⟩ (.slice RA pL.length Rcap))
              generalize ((w8.setCell ⟨Z, 0, none⟩ (.int .i64 pe)).setCell ⟨Z, 1, none⟩ (.slice RA pL.length Rcap)) = w9 at *
              refine hK.out _ _ (by exact ⟨hP.cell rfl, hP.cell rfl, HX.out _ hb 8 _ rfl, (HC9.out _ hb).2⟩) (fun hHeld => ?_)
              clear hK K
              try simp only [Act.put, List.setIfInBounds_toArray, List.set_cons_zero, List.set_cons_succ]
              refine wtk 11 hHeld ?_
              refine wpAnyH_done (by kernel_rfl) ?_ _
              refine NoPanic.normal ?_
              clear hHeld
              have y0 : w9.cell? ⟨Z, 0, none⟩ = some (.int .i64 pe) := hZ.cell rfl
              have y1 : w9.cell? ⟨Z, 1, none⟩ = some (.slice RA pL.length Rcap) := hZ.cell rfl
              by_cases hpx : px = 0
              · subst hpx
                have hGA : growAt V now k = some ⟨pe, pL⟩ := HG.out.trans (by rw [if_pos rfl])
                have HR1 : Hid (r = (⟨pe, pL⟩, true)) := Lib.hid (by rw [← HR0.out, growM, some_first (by rw [HNM.out]; exact hlt') hGA HA.out])
                clear hGA
                have hD := HD.out.belowAt hb hDs
                have hbw := below_step HB0.out hb
                have hvE := ChainS.set2 hR hD (.int .i64 pe) (.slice RA pL.length Rcap)
                have d0 : w9.cell? ⟨D, 0, none⟩ = some (.int .i64 0) := hD.cell rfl
                have d1 : w9.cell? ⟨D, 1, none⟩ = some (.slice none 0 0) := hD.cell rfl
                have hf := hD.free
                go_wp2_with fail
                obtain ⟨hE, hbE⟩ := fin2 (p := .int .i64 pe) (q := .slice RA pL.length Rcap) hD hbw hDn
                change bodyPost _ _ _ _ _ ((w9.setCell ⟨D, 0, none⟩ (.int .i64 pe)).setCell ⟨D, 1, none⟩ (.slice RA pL.length Rcap))
                generalize (w9.setCell ⟨D, 0, none⟩ (.int .i64 pe)).setCell ⟨D, 1, none⟩ (.slice RA pL.length Rcap) = W9 at *
                clear d0 d1
                have d0 := hE.cell (i := 0) rfl
                have d1 := hE.cell (i := 1) rfl
                exact bodyPost_ret (v := .tuple #[.agg #[.int .i64 pe, .slice RA pL.length Rcap], .bool true]) (by simp [results, Tryz.results48, go_sem, d0, d1] <;> rfl) rfl ⟨_, _, by (rw [HR1.out] <;> try rfl), by rw [HR1.out]; exact hvE, hbE⟩
              · have hpx' : (px == 0) = false := by simpa using hpx
                have hGA : growAt V now k = none := HG.out.trans (by rw [if_neg hpx])
                have HA2 : Hid (∀ j, j < k + 1 → growAt V now j = none) := Lib.hid (fun j hj => by
                  rcases Nat.lt_or_ge j k with h | h
                  · exact HA.out j h
                  · obtain rfl : j = k := by omega
                    exact hGA)
                have HB2 := Lib.hid (hb)
                clear hP hR hZ y0 y1 hb
                go_wp2_with fail
                go_roundw
                case rel => exact ⟨k + 1, by omega, by go_num, HA2.out, HB2.out⟩
                case measure => simp [intOf]; omega
            case re_2_6_9 =>
              go_simp
              have hZ : BlkAt (w6.alloc (.cells #[.int .i64 0, .slice none 0 0] 35)).drew w6.heap.size 35 [.int .i64 0, .slice none 0 0] := BlkAt.new w6 35 [.int .i64 0, .slice none 0 0]
              have ne_hP_hZ : X ≠ w6.heap.size := Nat.ne_of_lt (show X < w6.heap.size from hP.lt)
              replace hP : BlkAt (w6.alloc (.cells #[.int .i64 0, .slice none 0 0] 35)).drew X 42 [.int .i64 (k : Nat), .int .i64 y] := hP.alloc (.cells #[.int .i64 0, .slice none 0 0] 35)
              have hZn : W.heap.size ≤ w6.heap.size := hb.size
              replace hb : Below W.heap.size W (w6.alloc (.cells #[.int .i64 0, .slice none 0 0] 35)).drew := hb.alloc hb.size (.cells #[.int .i64 0, .slice none 0 0] 35)
              generalize (w6.alloc (.cells #[.int .i64 0, .slice none 0 0] 35)).drew = w7 at *
              generalize w6.heap.size = Z at *
              refine hK.out _ _ (by exact ⟨hP.cell rfl, hP.cell rfl, HX.out _ hb 8 _ rfl, (HC9.out _ hb).2⟩) (fun hHeld => ?_)
              clear hK K
              try simp only [Act.put, List.setIfInBounds_toArray, List.set_cons_zero, List.set_cons_succ]
              refine wpAnyH_ready (rs := [5]) (by kernel_rfl) (by simp) (AllReadyH.cons (o := ?oq_2_13_5) ?op_2_13_5 (fun K hK => ?re_2_13_5) AllReadyH.nil)
              case op_2_13_5 => (simp only [List.getElem?_toArray, List.getElem?_cons_succ, List.getElem?_cons_zero]; rfl)
              go_simp
              go_at_call 40
              refine (cjoin_m (by exact (HC9.out _ hb).1.1) (w64_nat hk8) hyw HPQ.out).mono ?_
              rintro en w8 ⟨RA, Rcap, rfl, hR, b7⟩
              replace hP := hP.below b7
              replace hZ := hZ.below b7
              replace hb := below_step hb b7
              clear b7
              refine hK.out _ _ (by exact ⟨hP.cell rfl, hP.cell rfl, HX.out _ hb 8 _ rfl, (HC9.out _ hb).2⟩) (fun hHeld => ?_)
              clear hK K
              try simp only [Act.put, List.setIfInBounds_toArray, List.set_cons_zero, List.set_cons_succ]
              refine wtk 6 hHeld ?_
              refine wtk 7 hHeld ?_
              refine wtk 8 hHeld ?_
              refine wpAnyH_ready (rs := [10]) (by kernel_rfl) (by simp) (AllReadyH.cons (o := ?oq_2_17_10) ?op_2_17_10 (fun K hK => ?re_2_17_10) AllReadyH.nil)
              case op_2_17_10 => (simp only [List.getElem?_toArray, List.getElem?_cons_succ, List.getElem?_cons_zero]; rfl)
              have z0 := hZ.cell (i := 0) rfl
              have z1 := hZ.cell (i := 1) rfl
              have zf := hZ.free
              go_simp
              have G1 := grown_setCell w8 Z 0 (.int .i64 pe)
              have G2 := grown_setCell (w8.setCell ⟨Z, 0, none⟩ (.int .i64 pe)) Z 1 (.slice RA pL.length Rcap)
              replace hP := (hP.grown G1 ne_hP_hZ).grown G2 ne_hP_hZ
              replace hR := hR.set2 hZ (.int .i64 pe) (.slice RA pL.length Rcap)
              replace hb := (hb.grown G1 hb.size (by intro j hj; cases hj; exact hZn)).grown G2 (hb.grown G1 hb.size (by intro j hj; cases hj; exact hZn)).size (by intro j hj; cases hj; exact hZn)
              replace hZ := (hZ.set 0 (.int .i64 pe)).set 1 (.slice RA pL.length Rcap)
              clear z0 z1 zf G1 G2
              change BlkAt ((w8.setCell ⟨Z, 0, none⟩ (.int .i64 pe)).setCell ⟨Z, 1, none⟩ (.slice RA pL.length Rcap)) Z 35 [.int .i64 pe, .slice RA pL.length Rcap] at hZ
              change K _ ((w8.setCell ⟨Z, 0, none⟩ (.int .i64 pe)).setCell ⟨Z, 1, none⟩ (.slice RA pL.length Rcap))
              generalize ((w8.setCell ⟨Z, 0, none⟩ (.int .i64 pe)).setCell ⟨Z, 1, none⟩ (.slice RA pL.length Rcap)) = w9 at *
              refine hK.out _ _ (by exact ⟨hP.cell rfl, hP.cell rfl, HX.out _ hb 8 _ rfl, (HC9.out _ hb).2⟩) (fun hHeld => ?_)
              clear hK K
              try simp only [Act.put, List.setIfInBounds_toArray, List.set_cons_zero, List.set_cons_succ]
              refine wtk 11 hHeld ?_
              refine wpAnyH_done (by kernel_rfl) ?_ _
              refine NoPanic.normal ?_
              clear hHeld
              have y0 : w9.cell? ⟨Z, 0, none⟩ = some (.int .i64 pe) := hZ.cell rfl
              have y1 : w9.cell? ⟨Z, 1, none⟩ = some (.slice RA pL.length Rcap) := hZ.cell rfl
              by_cases hpx : px = 0
              · subst hpx
                have hGA : growAt V now k = some ⟨pe, pL⟩ := HG.out.trans (by rw [if_pos rfl])
                have HR1 : Hid (r = (⟨pe, pL⟩, true)) := Lib.hid (by rw [← HR0.out, growM, some_first (by rw [HNM.out]; exact hlt') hGA HA.out])
                clear hGA
                have hD := HD.out.belowAt hb hDs
                have hbw := below_step HB0.out hb
                have hvE := ChainS.set2 hR hD (.int .i64 pe) (.slice RA pL.length Rcap)
                have d0 : w9.cell? ⟨D, 0, none⟩ = some (.int .i64 0) := hD.cell rfl
                have d1 : w9.cell? ⟨D, 1, none⟩ = some (.slice none 0 0) := hD.cell rfl
                have hf := hD.free
                go_wp2_with fail
                obtain ⟨hE, hbE⟩ := fin2 (p := .int .i64 pe) (q := .slice RA pL.length Rcap) hD hbw hDn
                change bodyPost _ _ _ _ _ ((w9.setCell ⟨D, 0, none⟩ (.int .i64 pe)).setCell ⟨D, 1, none⟩ (.slice RA pL.length Rcap))
                generalize (w9.setCell ⟨D, 0, none⟩ (.int .i64 pe)).setCell ⟨D, 1, none⟩ (.slice RA pL.length Rcap) = W9 at *
                clear d0 d1
                have d0 := hE.cell (i := 0) rfl
                have d1 := hE.cell (i := 1) rfl
                exact bodyPost_ret (v := .tuple #[.agg #[.int .i64 pe, .slice RA pL.length Rcap], .bool true]) (by simp [results, Tryz.results48, go_sem, d0, d1] <;> rfl) rfl ⟨_, _, by (rw [HR1.out] <;> try rfl), by rw [HR1.out]; exact hvE, hbE⟩
              · have hpx' : (px == 0) = false := by simpa using hpx
                have hGA : growAt V now k = none := HG.out.trans (by rw [if_neg hpx])
                have HA2 : Hid (∀ j, j < k + 1 → growAt V now j = none) := Lib.hid (fun j hj => by
                  rcases Nat.lt_or_ge j k with h | h
                  · exact HA.out j h
                  · obtain rfl : j = k := by omega
                    exact hGA)
                have HB2 := Lib.hid (hb)
                clear hP hR hZ y0 y1 hb
                go_wp2_with fail
                go_roundw
                case rel => exact ⟨k + 1, by omega, by go_num, HA2.out, HB2.out⟩
                case measure => simp [intOf]; omega
    · have hke : k = m := by omega
      have HRN : Hid (r = (⟨0, []⟩, false)) := Lib.hid (by rw [← HR0.out, growM, HNM.out, some_never (fun j hj => HA.out j (by omega))])
      have hNil : ChainS wr (.slice none 0 0) [] := ChainS.nil wr
      have hD := HD.out.belowAt hb hDs
      have hbw := below_step HB0.out hb
      have hvE := ChainS.set2 hNil hD (.int .i64 0) (.slice none 0 0)
      have d0 : wr.cell? ⟨D, 0, none⟩ = some (.int .i64 0) := hD.cell rfl
      have d1 : wr.cell? ⟨D, 1, none⟩ = some (.slice none 0 0) := hD.cell rfl
      have hf := hD.free
      go_wp2_with fail
      obtain ⟨hE, hbE⟩ := fin2 (p := .int .i64 0) (q := .slice none 0 0) hD hbw hDn
      change bodyPost _ _ _ _ _ ((wr.setCell ⟨D, 0, none⟩ (.int .i64 0)).setCell ⟨D, 1, none⟩ (.slice none 0 0))
      generalize (wr.setCell ⟨D, 0, none⟩ (.int .i64 0)).setCell ⟨D, 1, none⟩ (.slice none 0 0) = W9 at *
      clear d0 d1
      have d0 := hE.cell (i := 0) rfl
      have d1 := hE.cell (i := 1) rfl
      exact bodyPost_ret (v := .tuple #[.agg #[.int .i64 0, .slice none 0 0], .bool false]) (by simp [results, Tryz.results48, go_sem, d0, d1] <;> rfl) rfl ⟨none, 0, by (rw [HRN.out] <;> try rfl), by rw [HRN.out]; exact hvE, hbE⟩
end Go.Proofs.YtomfmejodmfioaaGreat
namespace Go.Proofs.YtomfmejodmfioaaGreat
open Go.RowKit Go.Maps Go.ChangeShapes Go.WideShapes Go.Joins Go.Deep
set_option linter.unusedVariables false

theorem res_parts (r : ConfV × Bool) : ∃ pe pL pb, r = (⟨pe, pL⟩, pb) := ⟨r.1.epoch, r.1.chain, r.2, rfl⟩
theorem wants_a {V : MstV} {now : Int} {c : ConfV} (h : shrinkM V now = (c, true)) : wantsM V now = (c, true) := by simp [wantsM, h]
theorem wants_b {V : MstV} {now : Int} {c d : ConfV} (h : shrinkM V now = (c, false)) (g : raiseM V = (d, true)) : wantsM V now = (d, true) := by simp [wantsM, h, g]
theorem wants_c {V : MstV} {now : Int} {c d : ConfV} (h : shrinkM V now = (c, false)) (g : raiseM V = (d, false)) : wantsM V now = growM V now := by simp [wantsM, h, g]
set_option maxRecDepth 100000 in
set_option maxHeartbeats 4000000 in

theorem mwants_nil (now : Int) (w : World) : Calls Tryz.prog 21 #[.pointer none, .int .i64 now] w fun e w' => MConf w w' e (⟨0, []⟩, false) := by
  go_enter Tryz.func21, Tryz.ntmps21
  go_upto_region 1 with (fail)
  have hD : BlkAt (w.alloc (.cells #[.int .i64 0, .slice none 0 0] 35)) w.heap.size 35 [.int .i64 0, .slice none 0 0] := BlkAt.new w 35 [.int .i64 0, .slice none 0 0]
  have hb : Below w.heap.size w (w.alloc (.cells #[.int .i64 0, .slice none 0 0] 35)) := (Below.refl w.heap.size w).alloc (Nat.le_refl _) _
  have hWs : w.heap.size + 1 ≤ (w.alloc (.cells #[.int .i64 0, .slice none 0 0] 35)).heap.size := by simp
  change Code.wp _ _ _ _ (w.alloc (.cells #[.int .i64 0, .slice none 0 0] 35))
  generalize w.alloc (.cells #[.int .i64 0, .slice none 0 0] 35) = W at *
  obtain ⟨D, hDD⟩ : ∃ D, D = w.heap.size := ⟨_, rfl⟩
  have hDn : w.heap.size ≤ D := by omega
  rw [← hDD] at hD ⊢
  have HD := Lib.hid hD
  have HB0 := Lib.hid hb
  have hDs : D < W.heap.size := hD.lt
  clear hDD hWs hD hb
  have hb := Below.refl W.heap.size W
  have hNil : ChainS W (.slice none 0 0) [] := ChainS.nil W
  have HR1 : Hid ((⟨0, []⟩, false) = ((⟨0, []⟩, false) : ConfV × Bool)) := Lib.hid rfl
  have hD := HD.out.belowAt hb hDs
  have hbw := below_step HB0.out hb
  have hvE := ChainS.set2 hNil hD (.int .i64 0) (.slice none 0 0)
  have d0 : W.cell? ⟨D, 0, none⟩ = some (.int .i64 0) := hD.cell rfl
  have d1 : W.cell? ⟨D, 1, none⟩ = some (.slice none 0 0) := hD.cell rfl
  have hf := hD.free
  go_wp2_with fail
  obtain ⟨hE, hbE⟩ := fin2 (p := .int .i64 0) (q := .slice none 0 0) hD hbw hDn
  change bodyPost _ _ _ _ _ ((W.setCell ⟨D, 0, none⟩ (.int .i64 0)).setCell ⟨D, 1, none⟩ (.slice none 0 0))
  generalize (W.setCell ⟨D, 0, none⟩ (.int .i64 0)).setCell ⟨D, 1, none⟩ (.slice none 0 0) = W9 at *
  clear d0 d1
  have d0 := hE.cell (i := 0) rfl
  have d1 := hE.cell (i := 1) rfl
  exact bodyPost_ret (v := .tuple #[.agg #[.int .i64 0, .slice none 0 0], .bool false]) (by simp [results, Tryz.results21, go_sem, d0, d1] <;> rfl) rfl ⟨none, 0, by rfl, hvE, hbE⟩
set_option maxRecDepth 100000 in
set_option maxHeartbeats 4000000 in

theorem mwants_any {B x N : Nat} {w : World} {b : MBlk} {V : MstV} {l : List UInt8} (h : MAt B w x b N V l) {now : Int} (ht : TOk now) {r : ConfV × Bool} (hr : wantsM V now = r) :
    Calls Tryz.prog 21 #[.pointer (some ⟨x, 0, none⟩), .int .i64 now] w fun e w' => MConf w w' e r := by
  have HR0 := Lib.hid hr
  clear hr
  go_enter Tryz.func21, Tryz.ntmps21
  go_upto_region 1 with (fail)
  have hD : BlkAt (w.alloc (.cells #[.int .i64 0, .slice none 0 0] 35)) w.heap.size 35 [.int .i64 0, .slice none 0 0] := BlkAt.new w 35 [.int .i64 0, .slice none 0 0]
  have hb : Below w.heap.size w (w.alloc (.cells #[.int .i64 0, .slice none 0 0] 35)) := (Below.refl w.heap.size w).alloc (Nat.le_refl _) _
  have hWs : w.heap.size + 1 ≤ (w.alloc (.cells #[.int .i64 0, .slice none 0 0] 35)).heap.size := by simp
  change Code.wp _ _ _ _ (w.alloc (.cells #[.int .i64 0, .slice none 0 0] 35))
  generalize w.alloc (.cells #[.int .i64 0, .slice none 0 0] 35) = W at *
  obtain ⟨D, hDD⟩ : ∃ D, D = w.heap.size := ⟨_, rfl⟩
  have hDn : w.heap.size ≤ D := by omega
  rw [← hDD] at hD ⊢
  have HM := Lib.hid (h.below hb)
  have HB0 := Lib.hid hb
  have HD := Lib.hid hD
  have hDs : D < W.heap.size := hD.lt
  clear hDD hWs hD hb h
  have hb := Below.refl W.heap.size W
  obtain ⟨pe, pL, pb, hp⟩ := res_parts (shrinkM V now)
  go_wp2_with fail
  refine (mshrink_any (by exact HM.out.below hb) ht hp).mono ?_
  rintro en w1 ⟨RA, Rcap, rfl, hR, b1⟩
  have HP := Lib.hid hp
  clear hp

  have hbq := below_step hb b1
  clear hb
  have hb := hbq
  clear hbq b1
  go_upto_region 4 with (fail)
  have hZ := BlkAt.new w1 35 [.int .i64 pe, .slice RA pL.length Rcap]
  have hRq := hR.below ((Below.refl _ _).alloc (Nat.le_refl _) (.cells #[.int .i64 pe, .slice RA pL.length Rcap] 35))
  clear hR
  have hR := hRq
  clear hRq
  have hbq := hb.alloc hb.size (.cells #[.int .i64 pe, .slice RA pL.length Rcap] 35)
  clear hb
  have hb := hbq
  clear hbq
  change Code.wp _ _ _ _ (w1.alloc (.cells #[.int .i64 pe, .slice RA pL.length Rcap] 35))
  change BlkAt (w1.alloc (.cells #[.int .i64 pe, .slice RA pL.length Rcap] 35)) _ _ _ at hZ
  have hZn := (show w1.heap.size ≤ w1.heap.size from Nat.le_refl _)
  generalize w1.alloc (.cells #[.int .i64 pe, .slice RA pL.length Rcap] 35) = w2 at *
  generalize w1.heap.size = Z at hZ ⊢
  clear hZn
  have z0 : w2.cell? ⟨Z, 0, none⟩ = some (.int .i64 pe) := hZ.cell rfl
  have z1 : w2.cell? ⟨Z, 1, none⟩ = some (.slice RA pL.length Rcap) := hZ.cell rfl
  cases pb with
  | true =>
    have HR1 : Hid (r = (⟨pe, pL⟩, true)) := Lib.hid (by rw [← HR0.out, wants_a HP.out])
    have hD := HD.out.belowAt hb hDs
    have hbw := below_step HB0.out hb
    have hvE := ChainS.set2 hR hD (.int .i64 pe) (.slice RA pL.length Rcap)
    have d0 : w2.cell? ⟨D, 0, none⟩ = some (.int .i64 0) := hD.cell rfl
    have d1 : w2.cell? ⟨D, 1, none⟩ = some (.slice none 0 0) := hD.cell rfl
    have hf := hD.free
    go_wp2_with fail
    obtain ⟨hE, hbE⟩ := fin2 (p := .int .i64 pe) (q := .slice RA pL.length Rcap) hD hbw hDn
    change bodyPost _ _ _ _ _ ((w2.setCell ⟨D, 0, none⟩ (.int .i64 pe)).setCell ⟨D, 1, none⟩ (.slice RA pL.length Rcap))
    generalize (w2.setCell ⟨D, 0, none⟩ (.int .i64 pe)).setCell ⟨D, 1, none⟩ (.slice RA pL.length Rcap) = W9 at *
    clear d0 d1
    have d0 := hE.cell (i := 0) rfl
    have d1 := hE.cell (i := 1) rfl
    exact bodyPost_ret (v := .tuple #[.agg #[.int .i64 pe, .slice RA pL.length Rcap], .bool true]) (by simp [results, Tryz.results21, go_sem, d0, d1] <;> rfl) rfl ⟨_, _, by (rw [HR1.out] <;> try rfl), by rw [HR1.out]; exact hvE, hbE⟩
  | false =>
    clear z0 z1 hR hZ
    obtain ⟨qe, qL, qb, hq⟩ := res_parts (raiseM V)
    go_wp2_with fail
    refine (mraise_any (by exact HM.out.below hb) hq).mono ?_
    rintro en w3 ⟨QA, Qcap, rfl, hQ, b3⟩
    have HQ := Lib.hid hq
    clear hq

    have hbq := below_step hb b3
    clear hb
    have hb := hbq
    clear hbq b3
    go_upto_region 7 with (fail)
    have hY := BlkAt.new w3 35 [.int .i64 qe, .slice QA qL.length Qcap]
    have hQq := hQ.below ((Below.refl _ _).alloc (Nat.le_refl _) (.cells #[.int .i64 qe, .slice QA qL.length Qcap] 35))
    clear hQ
    have hQ := hQq
    clear hQq
    have hbq := hb.alloc hb.size (.cells #[.int .i64 qe, .slice QA qL.length Qcap] 35)
    clear hb
    have hb := hbq
    clear hbq
    change Code.wp _ _ _ _ (w3.alloc (.cells #[.int .i64 qe, .slice QA qL.length Qcap] 35))
    change BlkAt (w3.alloc (.cells #[.int .i64 qe, .slice QA qL.length Qcap] 35)) _ _ _ at hY
    have hYn := (show w3.heap.size ≤ w3.heap.size from Nat.le_refl _)
    generalize w3.alloc (.cells #[.int .i64 qe, .slice QA qL.length Qcap] 35) = w4 at *
    generalize w3.heap.size = Y at hY ⊢
    clear hYn
    have z0 : w4.cell? ⟨Y, 0, none⟩ = some (.int .i64 qe) := hY.cell rfl
    have z1 : w4.cell? ⟨Y, 1, none⟩ = some (.slice QA qL.length Qcap) := hY.cell rfl
    cases qb with
    | true =>
      have HR1 : Hid (r = (⟨qe, qL⟩, true)) := Lib.hid (by rw [← HR0.out, wants_b HP.out HQ.out])
      have hD := HD.out.belowAt hb hDs
      have hbw := below_step HB0.out hb
      have hvE := ChainS.set2 hQ hD (.int .i64 qe) (.slice QA qL.length Qcap)
      have d0 : w4.cell? ⟨D, 0, none⟩ = some (.int .i64 0) := hD.cell rfl
      have d1 : w4.cell? ⟨D, 1, none⟩ = some (.slice none 0 0) := hD.cell rfl
      have hf := hD.free
      go_wp2_with fail
      obtain ⟨hE, hbE⟩ := fin2 (p := .int .i64 qe) (q := .slice QA qL.length Qcap) hD hbw hDn
      change bodyPost _ _ _ _ _ ((w4.setCell ⟨D, 0, none⟩ (.int .i64 qe)).setCell ⟨D, 1, none⟩ (.slice QA qL.length Qcap))
      generalize (w4.setCell ⟨D, 0, none⟩ (.int .i64 qe)).setCell ⟨D, 1, none⟩ (.slice QA qL.length Qcap) = W9 at *
      clear d0 d1
      have d0 := hE.cell (i := 0) rfl
      have d1 := hE.cell (i := 1) rfl
      exact bodyPost_ret (v := .tuple #[.agg #[.int .i64 qe, .slice QA qL.length Qcap], .bool true]) (by simp [results, Tryz.results21, go_sem, d0, d1] <;> rfl) rfl ⟨_, _, by (rw [HR1.out] <;> try rfl), by rw [HR1.out]; exact hvE, hbE⟩
    | false =>
      clear z0 z1 hQ hY
      obtain ⟨ge, gL, gb, hg⟩ := res_parts (growM V now)
      have HR1 : Hid (r = (⟨ge, gL⟩, gb)) := Lib.hid (by rw [← HR0.out, wants_c HP.out HQ.out, hg])
      go_wp2_with fail
      refine (mgrow_any (by exact HM.out.below hb) ht hg).mono ?_
      rintro en w5 ⟨GA, Gcap, rfl, hG, b5⟩
      clear hg

      have hbq := below_step hb b5
      clear hb
      have hb := hbq
      clear hbq b5
      have hD := HD.out.belowAt hb hDs
      have hbw := below_step HB0.out hb
      have hvE := ChainS.set2 hG hD (.int .i64 ge) (.slice GA gL.length Gcap)
      have d0 : w5.cell? ⟨D, 0, none⟩ = some (.int .i64 0) := hD.cell rfl
      have d1 : w5.cell? ⟨D, 1, none⟩ = some (.slice none 0 0) := hD.cell rfl
      have hf := hD.free
      go_wp2_with fail
      obtain ⟨hE, hbE⟩ := fin2 (p := .int .i64 ge) (q := .slice GA gL.length Gcap) hD hbw hDn
      change bodyPost _ _ _ _ _ ((w5.setCell ⟨D, 0, none⟩ (.int .i64 ge)).setCell ⟨D, 1, none⟩ (.slice GA gL.length Gcap))
      generalize (w5.setCell ⟨D, 0, none⟩ (.int .i64 ge)).setCell ⟨D, 1, none⟩ (.slice GA gL.length Gcap) = W9 at *
      clear d0 d1
      have d0 := hE.cell (i := 0) rfl
      have d1 := hE.cell (i := 1) rfl
      exact bodyPost_ret (v := .tuple #[.agg #[.int .i64 ge, .slice GA gL.length Gcap], .bool gb]) (by simp [results, Tryz.results21, go_sem, d0, d1] <;> rfl) rfl ⟨_, _, by (rw [HR1.out] <;> try rfl), by rw [HR1.out]; exact hvE, hbE⟩
end Go.Proofs.YtomfmejodmfioaaGreat
namespace Go.Proofs.YtomfmejodmfioaaGreat
open Go.RowKit Go.Maps Go.ChangeShapes Go.WideShapes Go.Joins Go.Deep
set_option linter.unusedVariables false

theorem w64_seats {c : ConfV} (h : rightC c = true) : ∀ s ∈ c.chain, W64 s.node ∧ W64 s.life := fun s hs => by
  obtain ⟨n, h1, h2, h3, h4⟩ := right_seat h hs
  exact ⟨by rw [h2]; exact w64_nat h1, w64_life ⟨h3, h4⟩⟩
set_option maxRecDepth 100000 in
set_option maxHeartbeats 4000000 in

theorem mseat_any {B x N : Nat} {w : World} {b : MBlk} {V : MstV} {l : List UInt8} (h : MAt B w x b N V l) {e : Int} {v : Value} {L : List SeatV} (hC : ChainS w v L) (hL : ∀ s ∈ L, W64 s.node ∧ W64 s.life) (hN : N + L.length ≤ 1000000000) :
    Calls Tryz.prog 54 #[.pointer (some ⟨x, 0, none⟩), .agg #[.int .i64 e, v]] w fun en w' => en = .returned (.tuple #[]) ∧ MAt B w' x b (N + L.length) { V with sat := seatF V.sat L } l ∧ FK (b.list x) B w w' := by
  obtain ⟨A, cap, rfl⟩ := hC.form
  have HLW := Lib.hid hL
  have HC := Lib.hid hC
  have hml : L.length ≤ 1000000000 := by omega
  clear hL
  go_enter Tryz.func54, Tryz.ntmps54
  go_upto_region 1 with (fail)
  have hc := BlkAt.new w 35 [.int .i64 e, .slice A L.length cap]
  have hb1 := (Below.refl w.heap.size w).alloc (Nat.le_refl _) (.cells #[.int .i64 e, .slice A L.length cap] 35)
  have hM1 := h.below hb1
  have hk1 : FK (b.list x) B w (w.alloc (.cells #[.int .i64 e, .slice A L.length cap] 35)) := FK.of_below hb1
  change Code.wp _ _ _ _ (w.alloc (.cells #[.int .i64 e, .slice A L.length cap] 35))
  change BlkAt (w.alloc (.cells #[.int .i64 e, .slice A L.length cap] 35)) _ _ _ at hc
  generalize w.alloc (.cells #[.int .i64 e, .slice A L.length cap] 35) = W at *
  have c1 : W.cell? ⟨w.heap.size, 1, none⟩ = some (.slice A L.length cap) := hc.cell rfl
  clear hb1 hc hC
  have HM0 := Lib.hid h
  clear h
  go_wp2_with fail
  clear c1
  go_loopw [9] (fun i wr => ∃ (k : Nat), k ≤ L.length ∧ i = .int .i64 k ∧ MAt B wr x b (N + k) { V with sat := seatF V.sat (L.take k) } l ∧ FK (b.list x) B w wr) (fun i _ => L.length - (intOf i).toNat)
  case atStart => exact ⟨0, Nat.zero_le _, rfl, hM1, hk1⟩
  case round =>
    obtain ⟨k, hk, rfl, hM, hK⟩ := hrel
    clear hM1 hk1
    by_cases hlt' : k < L.length
    · have hCr := HC.out.fk HM0.out hK
      obtain ⟨_, _, hqq, hs⟩ := hCr.1
      cases hqq
      obtain ⟨q, off, rfl, hab, hc⟩ := hs.2.2 (by omega)
      obtain ⟨s, hs'⟩ : ∃ s, L[k]? = some s := ⟨_, List.getElem?_eq_getElem hlt'⟩
      obtain ⟨s0, s1, s2⟩ := hc k s hs'
      obtain ⟨hnw, hyw⟩ := HLW.out s (List.mem_of_getElem? hs')
      have HSN := Lib.hid (seatF_snoc V.sat hs')
      obtain ⟨n, y, z⟩ := s
      simp only at s0 s1 s2 hnw hyw HSN
      clear hc hs' hs hCr
      have hb := Below.refl wr.heap.size wr
      go_upto_region 4 with (fail)
      have hP := BlkAt.new wr 49 [.int .i64 n, .int .i64 y, .bool z]
      have hbq := hb.alloc hb.size (.cells #[.int .i64 n, .int .i64 y, .bool z] 49)
      clear hb
      have hb := hbq
      clear hbq
      change Code.wp _ _ _ _ (wr.alloc (.cells #[.int .i64 n, .int .i64 y, .bool z] 49))
      change BlkAt (wr.alloc (.cells #[.int .i64 n, .int .i64 y, .bool z] 49)) _ _ _ at hP
      have hPn := (show wr.heap.size ≤ wr.heap.size from Nat.le_refl _)
      generalize wr.alloc (.cells #[.int .i64 n, .int .i64 y, .bool z] 49) = w3 at *
      generalize wr.heap.size = X at hP ⊢
      clear hPn
      clear s0 s1 s2
      have hM3 := hM.below hb
      have hK3 := hK.same (FK.of_below hb)
      clear hM hK hb
      have p0 : w3.cell? ⟨X, 0, none⟩ = some (.int .i64 n) := hP.cell rfl
      have p1 : w3.cell? ⟨X, 1, none⟩ = some (.int .i64 y) := hP.cell rfl
      have c20 : w3.cell? ⟨x, 20, none⟩ = some (.map (some b.sm)) := hM3.low rfl
      have hlt20 := hM3.lt
      refine still_tail 6 (by kernel_rfl) (by kernel_rfl) ?_
      simp only [List.take_succ_cons, List.take_zero, List.drop_succ_cons, List.drop_zero]
      repeat still_step
      refine wpStill_nil ?_
      change wpList _ _ _ _ _ _
      refine wpList_put_mem (by rfl) _ _ _ 85 (by rfl) 4 Tryz.underlying85 (by rfl) (hM3.sat.drew) (by unfold maxLen; omega) n y (.bool true) (by rfl) (by rfl) hnw hyw ?_
      intro w5 hm5 hg5
      have hg : w3.grownBy w5 (some b.sm) := ⟨hg5.os, hg5.tape, hg5.output, hg5.size, hg5.block⟩
      have HM5 : Hid (MAt B w5 x b (N + (k + 1)) { V with sat := seatF V.sat (L.take (k + 1)) } l) := Lib.hid (by
        rw [HSN.out]
        refine MAt.putSm (V := { V with sat := seatF V.sat (L.take k) }) hM3 (by omega) hg ?_
        have := hm5
        rw [satV_upd] at this
        exact this)
      have HK5 := Lib.hid (hK3.same (FK.of_grown hg (MAt.mem (b := b) (x := x) b.sm (by simp))))
      clear hM3 hK3 hm5 hg5 hg p0 p1 c20 hP hlt20
      go_wp2_with fail
      go_roundw
      case rel => exact ⟨k + 1, by omega, by go_num, HM5.out, HK5.out⟩
      case measure => simp [intOf]; omega
    · have hke : k = L.length := by omega
      subst hke
      rw [List.take_of_length_le (Nat.le_refl _)] at hM
      go_wp2_with fail
      go_end0
      exact ⟨rfl, hM, hK⟩
end Go.Proofs.YtomfmejodmfioaaGreat
namespace Go.Proofs.YtomfmejodmfioaaGreat
open Go.RowKit Go.Maps Go.ChangeShapes Go.WideShapes Go.Joins Go.Deep
set_option linter.unusedVariables false

theorem mcells_newmap {b : MBlk} {v : Value} {V : MstV} (hl : V.lives.length = 8) (m : Nat) (f : Int → Int → Option Int) : (mcells b v V).set 21 (.map (some m)) = mcells { b with nm := m } v { V with since := f } := by
  unfold mcells
  rw [List.set_append_right _ _ (by simp; omega)]
  simp [hl]
theorem MemsO.kind {B : Nat} {w : World} {v : Value} {G : List (Int × Int)} (h : MemsO B w v G) : ∀ j, v.ownBlock = some j → IsCells w j 42 := fun j hj => by
  rcases h.2 with ⟨rfl, _⟩ | ⟨g, cap, cur, rfl, _, hg, _⟩
  · simp [Value.ownBlock] at hj
  · simp only [Value.ownBlock, Option.some.injEq] at hj
    subst hj
    exact ⟨_, _, hg⟩
/-- Members stay as they were where a master turns. -/
theorem MemsO.fk {B0 B x N : Nat} {w w' : World} {v : Value} {G : List (Int × Int)} {b : MBlk} {V : MstV} {l : List UInt8} (hC : MemsO B0 w v G) (h : MAt B w x b N V l) (hk : FK (b.list x) B w w') : MemsO B0 w' v G := by
  have hkd := hC.kind
  obtain ⟨h1, h2⟩ := hC
  refine ⟨h1, ?_⟩
  rcases h2 with h2 | ⟨g, cap, cur, rfl, hg, hr, hrest⟩
  · exact .inl h2
  · have hc := hkd g rfl
    exact .inr ⟨g, cap, cur, rfl, hg, (hk.at hc (h.not hc (by decide) (by decide) (by decide)) (by decide)).trans hr, hrest⟩
theorem note_time {V : MstV} (hV : MOk V) {now : Int} (ht : TOk now) : ∀ (L : List (Int × Int)) (f : Int → Int → Option Int), (∀ x y t, f x y = some t → TOk t) → ∀ x y t, L.foldl (fun f m => updM f m.1 m.2 (some ((V.since m.1 m.2).getD now))) f x y = some t → TOk t
  | [], f, h => h
  | m :: L, f, h => by
    rw [List.foldl_cons]
    refine note_time hV ht L _ fun x y t hxy => ?_
    by_cases e : x = m.1 ∧ y = m.2
    · obtain ⟨rfl, rfl⟩ := e
      rw [updM_same] at hxy
      cases hs : V.since m.1 m.2 with
      | none => rw [hs] at hxy; cases hxy; exact ht
      | some u => rw [hs] at hxy; cases hxy; exact hV.since _ _ _ hs
    · rw [updM_other _ _ e] at hxy
      exact h x y t hxy
theorem noteF_time {V : MstV} (hV : MOk V) {now : Int} (ht : TOk now) (L : List (Int × Int)) : ∀ x y t, noteF V.since now L x y = some t → TOk t := note_time hV ht L _ (fun _ _ _ h => by cases h)
set_option maxRecDepth 100000 in
set_option maxHeartbeats 4000000 in

theorem mnote_any {B x N : Nat} {w : World} {b : MBlk} {V : MstV} {l : List UInt8} (h : MAt B w x b N V l) {now : Int} (ht : TOk now) (hN : N ≤ 900000000) :
    Calls Tryz.prog 82 #[.pointer (some ⟨x, 0, none⟩), .int .i64 now] w fun en w' => en = .returned (.tuple #[]) ∧ ∃ b', MAt B w' x b' (N + 200) (noteM V now) l ∧ FK (b.list x) B w w' ∧ FNew w (b.list x) (b'.list x) := by
  have hl8 := right_len h.ok.right
  have hrs : Hid (∀ m ∈ (freeM V now).1, ∃ n : Nat, n < 8 ∧ m.1 = n ∧ 1 ≤ m.2 ∧ m.2 ≤ 1099511627776) := Lib.hid (fun m hm => by
    obtain ⟨s, hs, rfl⟩ := lateM_mem (freeM_mem.1 hm).1
    exact right_seat h.ok.right hs)
  have hfl : (freeM V now).1.length ≤ 72 := Nat.le_trans (freeF_len V now _) (lateM_len hl8.2)
  have HT := Lib.hid (fun L => noteF_time h.ok ht L)
  have HNM : Hid (noteM V now = { V with since := noteF V.since now (freeM V now).1 }) := Lib.hid rfl
  obtain ⟨F, t, hF⟩ : ∃ F t, freeM V now = (F, t) := ⟨_, _, rfl⟩
  rw [hF] at hrs hfl HNM
  simp only at hrs hfl HNM
  have hmm := @run_makeMap Tryz.prog
  have HM0 := Lib.hid h
  go_enter Tryz.func82, Tryz.ntmps82
  go_wp2_with fail
  refine (mfree_any (by exact h) ht hF).mono ?_
  rintro en w2 ⟨fv, rfl, hFv, b2⟩
  obtain ⟨FA, Fcap, rfl⟩ := hFv.form
  have hM2 := h.below b2
  have hK2 : FK (b.list x) B w w2 := FK.of_below b2
  clear h b2 hF
  have c21 : w2.cell? ⟨x, 21, none⟩ = some (.map (some b.nm)) := hM2.low rfl
  have hfr : ∀ W' : World, W'.heap[x]? = w2.heap[x]? → W'.frozen? ⟨x, 21, none⟩ = false := fun W' e => by
    obtain ⟨v, hX, _⟩ := hM2.blk
    have : BlkAt W' x 87 (mcells b v V) := e.trans hX
    exact this.free 21
  have hlt2 := hM2.lt
  have hf21 : (w2.alloc (.map #[] 0)).frozen? ⟨x, 21, none⟩ = false := hfr _ (Below.heap_alloc w2 _ x hlt2)
  have c21' : (w2.alloc (.map #[] 0)).cell? ⟨x, 21, none⟩ = some (.map (some b.nm)) := by rw [World.cell?_of_block (Below.heap_alloc w2 _ x hlt2)]; exact c21
  go_upto_region 3 with (fail)
  have hmade := (MapM.made w2).mono (Nat.zero_le N)
  have hb3 := (Below.refl w2.heap.size w2).alloc (Nat.le_refl _) (.map #[] 0)
  have hM2a := hM2.below hb3
  have hold0 : MapM (w2.alloc (.map #[] 0)) b.nm N (sinceV V.since) := hM2a.since
  have hFa := hFv.below hb3
  have gx := grown_setCell (w2.alloc (.map #[] 0)) x 21 (.map (some w2.heap.size))
  have hM3 : MAt B ((w2.alloc (.map #[] 0)).setCell ⟨x, 21, none⟩ (.map (some w2.heap.size))) x { b with nm := w2.heap.size } N { V with since := fun _ _ => none } l := by
    obtain ⟨v, hX, hC⟩ := hM2a.blk
    refine MAt.putX (b' := { b with nm := w2.heap.size }) (V' := { V with since := fun _ _ => none }) (v' := v) hM2a gx ?_ hC rfl rfl rfl rfl rfl hmade ⟨?_, ?_, ?_⟩ rfl rfl rfl rfl ⟨HM0.out.ok.set, HM0.out.ok.right, HM0.out.ok.len, HM0.out.ok.lives, HM0.out.ok.beats, fun _ _ _ h => by cases h⟩
    · rw [← mcells_newmap HM0.out.ok.len]
      exact hX.set 21 _
    · exact fun e => Nat.lt_irrefl _ (e ▸ hM2.book.map.lt)
    · exact fun e => Nat.lt_irrefl _ (e ▸ hM2.beats.lt)
    · exact fun e => Nat.lt_irrefl _ (e ▸ hM2.sat.lt)
  have hnx : x ≠ b.nm := cells_ne_map hM2.kindX hM2.since.isMap
  have hold : MapM ((w2.alloc (.map #[] 0)).setCell ⟨x, 21, none⟩ (.map (some w2.heap.size))) b.nm N (sinceV V.since) := hold0.grown gx (by simpa using hnx.symm)
  have hnn : w2.heap.size ≠ b.nm := fun e => Nat.lt_irrefl _ (e ▸ hM2.since.lt)
  have hF3 : MemsO w.heap.size ((w2.alloc (.map #[] 0)).setCell ⟨x, 21, none⟩ (.map (some w2.heap.size))) (.slice FA F.length Fcap) F := hFa.fk hM2a (FK.of_grown gx (MAt.mem (b := b) (x := x) x (by simp)))
  have HK3 : Hid (FK (b.list x) B w ((w2.alloc (.map #[] 0)).setCell ⟨x, 21, none⟩ (.map (some w2.heap.size)))) := Lib.hid ((hK2.same (FK.of_below hb3)).same (FK.of_grown gx (MAt.mem (b := b) (x := x) x (by simp))))
  have hsz2 := hK2.size
  have HFN : Hid (FNew w (b.list x) (MBlk.list { b with nm := w2.heap.size } x)) := Lib.hid ⟨fun k hk => by
    simp only [MBlk.list, List.mem_cons, List.not_mem_nil, or_false] at hk ⊢
    rcases hk with rfl | rfl | rfl | rfl | rfl | rfl | rfl
    · simp
    · simp
    · simp
    · simp
    · simp
    · simp
    · exact .inr hsz2, fun _ => ⟨rfl, rfl⟩⟩
  clear hM2a hold0 hFa hmade hb3 c21 c21' hf21 hfr hM2 hK2 hFv gx hnx hmm
  have hltK := hlt2
  clear hlt2
  rw [← World.setCell_alloc_past (.map #[] 0) x 21 (.map (some w2.heap.size)) hltK]
  generalize (w2.alloc (.map #[] 0)).setCell ⟨x, 21, none⟩ (.map (some w2.heap.size)) = w3 at *
  generalize w2.heap.size = nm at *
  have HM3 := Lib.hid hM3
  have HF3 := Lib.hid hF3
  go_wp2_with fail
  go_loopw [27] (fun i wr => ∃ (k : Nat), k ≤ F.length ∧ i = .int .i64 k ∧ MAt B wr x { b with nm := nm } (N + 2 * k) { V with since := noteF V.since now (F.take k) } l ∧ MapM wr b.nm N (sinceV V.since) ∧ FK (MBlk.list { b with nm := nm } x) B w3 wr) (fun i _ => F.length - (intOf i).toNat)
  case atStart => exact ⟨0, Nat.zero_le _, rfl, hM3, hold, FK.refl _ _ _⟩
  case round =>
    obtain ⟨k, hk, rfl, hM, hO, hK⟩ := hrel
    clear hM3 hold hF3
    by_cases hlt' : k < F.length
    · obtain ⟨_, _, hqq, hs⟩ := (HF3.out.fk HM3.out hK).v
      cases hqq
      obtain ⟨q, off, rfl, hab, hc⟩ := hs.2 (by omega)
      obtain ⟨m, hm⟩ : ∃ m, F[k]? = some m := ⟨_, List.getElem?_eq_getElem hlt'⟩
      obtain ⟨s0, s1⟩ := hc k m hm
      obtain ⟨n, hn8, hn, hl12⟩ := hrs.out m (List.mem_of_getElem? hm)
      have HSN := Lib.hid (noteF_snoc V.since now hm)
      obtain ⟨x0, y⟩ := m
      simp only at s0 s1 hn hl12 HSN
      subst hn
      clear hc hm hs
      have hb := Below.refl wr.heap.size wr
      go_upto_region 6 with (fail)
      have hP := BlkAt.new wr 42 [.int .i64 (n : Nat), .int .i64 y]
      have hbq := hb.alloc hb.size (.cells #[.int .i64 (n : Nat), .int .i64 y] 42)
      clear hb
      have hb := hbq
      clear hbq
      change Code.wp _ _ _ _ (wr.alloc (.cells #[.int .i64 (n : Nat), .int .i64 y] 42))
      change BlkAt (wr.alloc (.cells #[.int .i64 (n : Nat), .int .i64 y] 42)) _ _ _ at hP
      have hPn := (show wr.heap.size ≤ wr.heap.size from Nat.le_refl _)
      generalize wr.alloc (.cells #[.int .i64 (n : Nat), .int .i64 y] 42) = w4 at *
      generalize wr.heap.size = X at hP ⊢
      clear hPn
      clear s0 s1
      have hM4 := hM.below hb
      have hO4 := hO.below hb
      have hK4 := hK.same (FK.of_below hb)
      clear hM hK hO hb
      have p0 : w4.cell? ⟨X, 0, none⟩ = some (.int .i64 (n : Nat)) := hP.cell rfl
      have p1 : w4.cell? ⟨X, 1, none⟩ = some (.int .i64 y) := hP.cell rfl
      have c21 : w4.cell? ⟨x, 21, none⟩ = some (.map (some nm)) := hM4.low rfl
      have hltx := hM4.lt
      refine still_tail 6 (by kernel_rfl) (by kernel_rfl) ?_
      simp only [List.take_succ_cons, List.take_zero, List.drop_succ_cons, List.drop_zero]
      repeat still_step
      refine wpStill_nil ?_
      change wpList _ _ _ _ _ _
      refine wpList_put_mem (by rfl) _ _ _ 30 (by rfl) 3 Tryz.underlying30 (by rfl) (hM4.since.drew) (by unfold maxLen; omega) (n : Nat) y (.int .i64 now) (by rfl) (by rfl) (w64_nat hn8) (w64_life hl12) ?_
      intro w5 hm5 hg5
      have hg : w4.grownBy w5 (some nm) := ⟨hg5.os, hg5.tape, hg5.output, hg5.size, hg5.block⟩
      have hM5 : MAt B w5 x { b with nm := nm } (N + 2 * k + 1) { V with since := updM (noteF V.since now (F.take k)) (n : Nat) y (some now) } l := by
        refine MAt.putNm (b := { b with nm := nm }) (V := { V with since := noteF V.since now (F.take k) }) hM4 (by omega) hg ?_ (fun a c t' h' => ?_)
        · have := hm5
          rw [sinceV_upd] at this
          exact this
        · by_cases e : a = (n : Nat) ∧ c = y
          · obtain ⟨rfl, rfl⟩ := e
            rw [updM_same] at h'
            cases h'
            exact ht
          · rw [updM_other _ _ e] at h'
            exact HT.out _ _ _ _ h'
      have hO5 := hO4.grown hg (by simpa using hnn.symm)
      have hP5 := hP.fk hM4 (FK.of_grown (B := B) hg (MAt.mem (b := { b with nm := nm }) (x := x) nm (by simp))) (by decide) (by decide) (by decide) (by decide)
      have hK5 := hK4.same (FK.of_grown hg (MAt.mem (b := { b with nm := nm }) (x := x) nm (by simp)))
      clear hM4 hO4 hP hK4 hm5 hg5 hg p0 p1 c21 hltx
      have p0 : w5.cell? ⟨X, 0, none⟩ = some (.int .i64 (n : Nat)) := hP5.cell rfl
      have p1 : w5.cell? ⟨X, 1, none⟩ = some (.int .i64 y) := hP5.cell rfl
      have hlk : (Instr.lookup 30 (.map (some b.nm)) (.agg #[.int .i64 (n : Nat), .int .i64 y]) true).run Tryz.prog w5 = .ok (.tuple #[.int .i64 ((V.since (n : Nat) y).getD 0), .bool (V.since (n : Nat) y).isSome]) w5 := look_since hO5 (w64_nat hn8) (w64_life hl12)
      cases hsn : V.since (n : Nat) y with
      | none =>
        rw [hsn] at hlk
        simp only [Option.getD_none, Option.isSome_none] at hlk
        have HM6 : Hid (MAt B w5 x { b with nm := nm } (N + 2 * (k + 1)) { V with since := noteF V.since now (F.take (k + 1)) } l) := Lib.hid (by
          rw [HSN.out, hsn]
          exact hM5.mono (by omega))
        have HO6 := Lib.hid hO5
        have HK6 := Lib.hid hK5
        clear hM5 hO5 hK5 hP5
        go_wp2_with fail
        go_roundw
        case rel => exact ⟨k + 1, by omega, by go_num, HM6.out, HO6.out, HK6.out⟩
        case measure => simp [intOf]; omega
      | some at_ =>
        rw [hsn] at hlk
        simp only [Option.getD_some, Option.isSome_some] at hlk
        go_upto_region 9 with (fail)
        have c21 : w5.cell? ⟨x, 21, none⟩ = some (.map (some nm)) := hM5.low rfl
        have hltx := hM5.lt
        clear hlk
        refine still_tail 6 (by kernel_rfl) (by kernel_rfl) ?_
        simp only [List.take_succ_cons, List.take_zero, List.drop_succ_cons, List.drop_zero]
        repeat still_step
        refine wpStill_nil ?_
        change wpList _ _ _ _ _ _
        refine wpList_put_mem (by rfl) _ _ _ 30 (by rfl) 3 Tryz.underlying30 (by rfl) (hM5.since.drew) (by unfold maxLen; omega) (n : Nat) y (.int .i64 at_) (by rfl) (by rfl) (w64_nat hn8) (w64_life hl12) ?_
        intro w6 hm6 hg6
        have hg : w5.grownBy w6 (some nm) := ⟨hg6.os, hg6.tape, hg6.output, hg6.size, hg6.block⟩
        have HM6 : Hid (MAt B w6 x { b with nm := nm } (N + 2 * (k + 1)) { V with since := noteF V.since now (F.take (k + 1)) } l) := Lib.hid (by
          rw [HSN.out, hsn]
          refine MAt.putNm (b := { b with nm := nm }) (V := { V with since := updM (noteF V.since now (F.take k)) (n : Nat) y (some now) }) hM5 (by omega) hg ?_ (fun a c t' h' => ?_)
          · have := hm6
            rw [sinceV_upd, updM_updM] at this
            exact this
          · refine HT.out (F.take (k + 1)) a c t' ?_
            rw [HSN.out, hsn]
            exact h')
        have HO6 := Lib.hid (hO5.grown hg (by simpa using hnn.symm))
        have HK6 := Lib.hid (hK5.same (FK.of_grown hg (MAt.mem (b := { b with nm := nm }) (x := x) nm (by simp))))
        clear hM5 hO5 hP5 hK5 hm6 hg6 hg p0 p1 c21 hltx
        go_wp2_with fail
        go_roundw
        case rel => exact ⟨k + 1, by omega, by go_num, HM6.out, HO6.out, HK6.out⟩
        case measure => simp [intOf]; omega
    · have hke : k = F.length := by omega
      subst hke
      rw [List.take_of_length_le (Nat.le_refl _)] at hM
      go_wp2_with fail
      go_end0
      exact ⟨rfl, { b with nm := nm }, by rw [HNM.out]; exact hM.mono (by omega), HK3.out.trans HFN.out hK, HFN.out⟩
end Go.Proofs.YtomfmejodmfioaaGreat
namespace Go.Proofs.YtomfmejodmfioaaGreat
open Go.RowKit Go.Maps Go.ChangeShapes Go.WideShapes Go.Joins Go.Deep
set_option linter.unusedVariables false


section
variable {B x N : Nat} {w w' : World} {b : MBlk} {V : MstV} {l : List UInt8}
theorem FK.wide {bs bs' : List Nat} (h : FK bs B w w') (hs : ∀ k ∈ bs, k ∈ bs') : FK bs' B w w' := ⟨h.os, h.tape, h.output, h.size, fun k hk hn hu => h.block k hk (fun hm => hn (hs k hm)) hu⟩
/-- What a log's call leaves. -/
theorem KeptL.fk {lb : Nat} {u : Value} {t : Bool} (hk : KeptL w w' lb u.ownBlock) (hl : LogAt B w lb u l t) : FK [lb] B w w' :=
  ⟨hk.os, hk.tape, hk.output, hk.size, fun k hkl hn hu => hk.block k hkl (by simpa using hn) (fun e => hu ⟨hl.row k e.symm, by
    rcases hl.2.2.2 with ⟨rfl, _⟩ | ⟨g, cap, cur, rfl, _, hr, _⟩
    · simp [Value.ownBlock] at e
    · simp only [Value.ownBlock, Option.some.injEq] at e
      subst e
      exact ⟨_, _, hr⟩⟩)⟩
theorem MAt.inLb : ∀ k ∈ [b.lb], k ∈ b.list x := by simp [MBlk.list]
/-- The log turned. -/
theorem MAt.putLog (h : MAt B w x b N V l) {l' : List UInt8} (hk : FK [b.lb] B w w') (hl : ∃ v, LogAt B w' b.lb v l' false) : MAt B w' x b N V l' := by
  have hL := h.kindL
  have km : ∀ {k : Nat}, IsMapB w k → w'.heap[k]? = w.heap[k]? := fun {k} hm => hk.atMap hm (fun e => by
    rw [List.mem_singleton.1 e] at hm
    exact cells_ne_map hL hm rfl)
  have kc : ∀ {k : Nat} {T : TypeId}, IsCells w k T → T ≠ 114 → T ≠ 5 → w'.heap[k]? = w.heap[k]? := fun {k T} hc h1 h2 => hk.at hc (fun e => by
    rw [List.mem_singleton.1 e] at hc
    exact cells_ne hc hL h1 rfl) h2
  obtain ⟨v, hX, hC⟩ := h.blk
  have hC' : ChainS w' v V.cf.chain := hC.fk h (hk.wide MAt.inLb)
  exact ⟨⟨v, (kc hX.kind (by decide) (by decide)).trans hX, hC'⟩, hl, h.book.kept (kc h.book.blk.kind (by decide) (by decide)) (km h.book.map.isMap), h.beats.kept (km h.beats.isMap), h.sat.kept (km h.sat.isMap), h.since.kept (km h.since.isMap), h.ne, h.ok⟩
theorem mcells_chain (v v' : Value) (c : ConfV) : ((mcells b v V).set 8 (.int .i64 c.epoch)).set 9 v' = mcells b v' { V with cf := c } := by
  unfold mcells
  simp
end
theorem turn_no {V : MstV} {l : List UInt8} {now : Int} {c : ConfV} (h : wantsM (noteM V now) now = (c, false)) : turnM V l now = (noteM V now, l) := by simp [turnM, h]
theorem turn_full {V : MstV} {l l' : List UInt8} {now e : Int} {c : ConfV} (h : wantsM (noteM V now) now = (c, true)) (hw : writeS l false (encConf c) big = (l', e)) (he : e ≠ 0) : turnM V l now = (noteM V now, l) := by simp [turnM, h, hw, he]
theorem turn_yes {V : MstV} {l l' : List UInt8} {now : Int} {c : ConfV} (h : wantsM (noteM V now) now = (c, true)) (hw : writeS l false (encConf c) big = (l', 0)) : turnM V l now = ({ noteM V now with cf := c, sat := seatF V.sat c.chain }, l') := by simp [turnM, h, hw]
theorem write_fail {l l' : List UInt8} {s : List UInt8} {k e : Int} (hw : writeS l false s k = (l', e)) (he : e ≠ 0) : l' = l := by
  unfold writeS at hw
  split at hw
  · cases hw; rfl
  · split at hw
    · cases hw; rfl
    · split at hw
      · cases hw; rfl
      · cases hw; exact absurd rfl he
set_option maxRecDepth 100000 in
set_option maxHeartbeats 4000000 in

theorem mturn_any {B x N : Nat} {w : World} {b : MBlk} {V : MstV} {l : List UInt8} (h : MAt B w x b N V l) {now : Int} (ht : TOk now) (hN : N ≤ 800000000) (hl : l.length ≤ 65536) :
    Calls Tryz.prog 58 #[.pointer (some ⟨x, 0, none⟩), .int .i64 now] w fun en w' => en = .returned (.tuple #[]) ∧ ∃ b', MAt B w' x b' (N + 300) (turnM V l now).1 (turnM V l now).2 ∧ FK (b.list x) B w w' ∧ FNew w (b.list x) (b'.list x) := by
  go_enter Tryz.func58, Tryz.ntmps58
  go_wp2_with fail
  refine (mnote_any (by exact h) ht (by omega)).mono ?_
  rintro en w2 ⟨rfl, b', hM, hFK, hFN⟩
  clear h
  obtain ⟨pe, pL, pb, hp⟩ := res_parts (wantsM (noteM V now) now)
  have HP := Lib.hid hp
  go_wp2_with fail
  refine (mwants_any (by exact hM) ht hp).mono ?_
  rintro en w3 ⟨RA, Rcap, rfl, hR, b3⟩
  clear hp
  have hMq := hM.below b3
  have hFKq := hFK.trans hFN (FK.of_below b3)
  clear hM hFK
  have hM := hMq
  have hFK := hFKq
  clear hMq hFKq b3
  have hb := Below.refl w3.heap.size w3
  go_upto_region 2 with (fail)
  have hZ := BlkAt.new w3 35 [.int .i64 pe, .slice RA pL.length Rcap]
  replace hR := hR.below ((Below.refl _ _).alloc (Nat.le_refl _) (.cells #[.int .i64 pe, .slice RA pL.length Rcap] 35))
  replace hM := hM.below ((Below.refl _ _).alloc (Nat.le_refl _) (.cells #[.int .i64 pe, .slice RA pL.length Rcap] 35))
  replace hb := hb.alloc hb.size (.cells #[.int .i64 pe, .slice RA pL.length Rcap] 35)
  change Code.wp _ _ _ _ (w3.alloc (.cells #[.int .i64 pe, .slice RA pL.length Rcap] 35))
  change BlkAt (w3.alloc (.cells #[.int .i64 pe, .slice RA pL.length Rcap] 35)) _ _ _ at hZ
  have hZn := (show w3.heap.size ≤ w3.heap.size from Nat.le_refl _)
  generalize w3.alloc (.cells #[.int .i64 pe, .slice RA pL.length Rcap] 35) = w4 at *
  generalize w3.heap.size = Z at hZ ⊢
  clear hZn
  have hFKq := hFK.trans hFN (FK.of_below hb)
  clear hFK hb
  have hFK := hFKq
  clear hFKq
  have bd : Below w4.heap.size w4 w4.drew := below_drewN (Below.refl _ _) 1
  have hMq := hM.below bd
  have hZq := hZ.below bd
  have hRq := hR.below bd
  have hFKq := hFK.trans hFN (FK.of_below bd)
  clear hM hZ hR hFK
  have hM := hMq
  have hZ := hZq
  have hR := hRq
  have hFK := hFKq
  clear hMq hZq hRq hFKq bd
  cases pb with
  | false =>
    refine wp_region_noPanic ?_
    refine wp_region_held_drew (S := (fun w' => w'.cell? ⟨x, 7, none⟩ = some (.pointer (some ⟨b'.lb, 0, none⟩)) ∧ w'.cell? ⟨Z, 0, none⟩ = some (.int .i64 pe) ∧ w'.cell? ⟨Z, 1, none⟩ = some (.slice RA pL.length Rcap))) (by kernel_rfl) (by exact ⟨hM.low rfl, hZ.cell rfl, hZ.cell rfl⟩) (fun hHeld => ?_)
    refine wtk 0 hHeld ?_
    refine wtk 1 hHeld ?_
    refine wpAnyH_take (i := 2) (oi := ?oq_1_2) (v := undef) ?op_1_2 (by kernel_rfl) (by kernel_rfl) (by kernel_rfl) (fun _ _ _ h => h) ?yi_1_2 hHeld ?re_1_2
    case op_1_2 => (simp only [List.getElem?_toArray, List.getElem?_cons_succ, List.getElem?_cons_zero]; rfl)
    case yi_1_2 => exact Or.inr ⟨by rfl, rfl⟩
    try simp only [Act.put, List.setIfInBounds_toArray, List.set_cons_zero, List.set_cons_succ]
    refine wpAnyH_take (i := 3) (oi := ?oq_1_3) (v := undef) ?op_1_3 (by kernel_rfl) (by kernel_rfl) (by kernel_rfl) (fun _ _ _ h => h) ?yi_1_3 hHeld ?re_1_3
    case op_1_3 => (simp only [List.getElem?_toArray, List.getElem?_cons_succ, List.getElem?_cons_zero]; rfl)
    case yi_1_3 => exact Or.inr ⟨by rfl, rfl⟩
    try simp only [Act.put, List.setIfInBounds_toArray, List.set_cons_zero, List.set_cons_succ]
    refine wpAnyH_take (i := 4) (oi := ?oq_1_4) (v := undef) ?op_1_4 (by kernel_rfl) (by kernel_rfl) (by kernel_rfl) (fun _ _ _ h => h) ?yi_1_4 hHeld ?re_1_4
    case op_1_4 => (simp only [List.getElem?_toArray, List.getElem?_cons_succ, List.getElem?_cons_zero]; rfl)
    case yi_1_4 => exact Or.inr ⟨by rfl, rfl⟩
    try simp only [Act.put, List.setIfInBounds_toArray, List.set_cons_zero, List.set_cons_succ]
    refine wpAnyH_take (i := 5) (oi := ?oq_1_5) (v := undef) ?op_1_5 (by kernel_rfl) (by kernel_rfl) (by kernel_rfl) (fun _ _ _ h => h) ?yi_1_5 hHeld ?re_1_5
    case op_1_5 => (simp only [List.getElem?_toArray, List.getElem?_cons_succ, List.getElem?_cons_zero]; rfl)
    case yi_1_5 => exact Or.inr ⟨by rfl, rfl⟩
    try simp only [Act.put, List.setIfInBounds_toArray, List.set_cons_zero, List.set_cons_succ]
    refine wpAnyH_take (i := 6) (oi := ?oq_1_6) (v := undef) ?op_1_6 (by kernel_rfl) (by kernel_rfl) (by kernel_rfl) (fun _ _ _ h => h) ?yi_1_6 hHeld ?re_1_6
    case op_1_6 => (simp only [List.getElem?_toArray, List.getElem?_cons_succ, List.getElem?_cons_zero]; rfl)
    case yi_1_6 => exact Or.inr ⟨by rfl, rfl⟩
    try simp only [Act.put, List.setIfInBounds_toArray, List.set_cons_zero, List.set_cons_succ]
    refine wpAnyH_take (i := 7) (oi := ?oq_1_7) (v := undef) ?op_1_7 (by kernel_rfl) (by kernel_rfl) (by kernel_rfl) (fun _ _ _ h => h) ?yi_1_7 hHeld ?re_1_7
    case op_1_7 => (simp only [List.getElem?_toArray, List.getElem?_cons_succ, List.getElem?_cons_zero]; rfl)
    case yi_1_7 => exact Or.inr ⟨by rfl, rfl⟩
    try simp only [Act.put, List.setIfInBounds_toArray, List.set_cons_zero, List.set_cons_succ]
    refine wpAnyH_take (i := 8) (oi := ?oq_1_8) (v := undef) ?op_1_8 (by kernel_rfl) (by kernel_rfl) (by kernel_rfl) (fun _ _ _ h => h) ?yi_1_8 hHeld ?re_1_8
    case op_1_8 => (simp only [List.getElem?_toArray, List.getElem?_cons_succ, List.getElem?_cons_zero]; rfl)
    case yi_1_8 => exact Or.inr ⟨by rfl, rfl⟩
    try simp only [Act.put, List.setIfInBounds_toArray, List.set_cons_zero, List.set_cons_succ]
    refine wpAnyH_take (i := 9) (oi := ?oq_1_9) (v := undef) ?op_1_9 (by kernel_rfl) (by kernel_rfl) (by kernel_rfl) (fun _ _ _ h => h) ?yi_1_9 hHeld ?re_1_9
    case op_1_9 => (simp only [List.getElem?_toArray, List.getElem?_cons_succ, List.getElem?_cons_zero]; rfl)
    case yi_1_9 => exact Or.inr ⟨by rfl, rfl⟩
    try simp only [Act.put, List.setIfInBounds_toArray, List.set_cons_zero, List.set_cons_succ]
    refine wtk 10 hHeld ?_
    refine wpAnyH_done (by kernel_rfl) ?_ _
    refine NoPanic.normal ?_
    clear hHeld hR hZ
    have HM := Lib.hid hM
    have HK := Lib.hid hFK
    clear hM hFK
    go_wp2_with fail
    go_end0
    exact ⟨rfl, b', by rw [turn_no HP.out]; exact HM.out.mono (by omega), HK.out, hFN⟩
  | true =>
    have hrt := wants_right HP.out
    have hl8 := right_len hrt
    simp only at hl8
    obtain ⟨l', er, hwr⟩ : ∃ l' er, writeS l false (encConf ⟨pe, pL⟩) 1099511627776 = (l', er) := ⟨_, _, rfl⟩
    have HWR := Lib.hid hwr
    clear hwr
    refine wp_region_noPanic ?_
    refine wp_region_held_drew (S := (fun w' => w'.cell? ⟨x, 7, none⟩ = some (.pointer (some ⟨b'.lb, 0, none⟩)) ∧ w'.cell? ⟨Z, 0, none⟩ = some (.int .i64 pe) ∧ w'.cell? ⟨Z, 1, none⟩ = some (.slice RA pL.length Rcap))) (by kernel_rfl) (by exact ⟨hM.low rfl, hZ.cell rfl, hZ.cell rfl⟩) (fun hHeld => ?_)
    refine wtk 0 hHeld ?_
    refine wtk 1 hHeld ?_
    refine wtk 2 hHeld ?_
    refine wtk 3 hHeld ?_
    refine wtk 4 hHeld ?_
    refine wtk 5 hHeld ?_
    refine wtk 6 hHeld ?_
    refine wpAnyH_ready (rs := [7]) (by kernel_rfl) (by simp) (AllReadyH.cons (o := ?oq_2_7) ?op_2_7 (fun K hK => ?re_2_7) AllReadyH.nil)
    case op_2_7 => (simp only [List.getElem?_toArray, List.getElem?_cons_succ, List.getElem?_cons_zero]; rfl)
    go_simp
    go_at_call 45
    refine (cput_any (by exact hR.1) pe (by omega)).mono ?_
    rintro en w5 ⟨rfl, b5⟩
    have hMq := hM.below b5
    have hZq := hZ.below b5
    have hRq := hR.below b5
    have hFKq := hFK.trans hFN (FK.of_below b5)
    clear hM hZ hR hFK
    have hM := hMq
    have hZ := hZq
    have hR := hRq
    have hFK := hFKq
    clear hMq hZq hRq hFKq b5
    refine hK.out _ _ (by exact ⟨hM.low rfl, hZ.cell rfl, hZ.cell rfl⟩) (fun hHeld => ?_)
    clear hK K
    try simp only [Act.put, List.setIfInBounds_toArray, List.set_cons_zero, List.set_cons_succ]
    refine wpAnyH_ready (rs := [8]) (by kernel_rfl) (by simp) (AllReadyH.cons (o := ?oq_2_8) ?op_2_8 (fun K hK => ?re_2_8) AllReadyH.nil)
    case op_2_8 => (simp only [List.getElem?_toArray, List.getElem?_cons_succ, List.getElem?_cons_zero]; rfl)
    go_simp
    go_at_call 51
    obtain ⟨u, hlog⟩ := hM.log
    refine (append_any (by exact hlog) hl (by have := encConf_len ⟨pe, pL⟩; simp only at this; unfold maxLen; omega) (Nat.le_trans hlog.1 (Nat.le_of_lt hlog.lt))).mono ?_
    rintro en w6 ⟨rfl, hlog6, hk6⟩
    rw [HWR.out] at hlog6 ⊢
    simp only at hlog6 ⊢
    have hf6 := hk6.fk hlog
    have hMq := hM.putLog hf6 hlog6
    have hf6 := hf6.wide (MAt.inLb (x := x))
    have hZq := hZ.fk hM hf6 (by decide) (by decide) (by decide) (by decide)
    have hRq := hR.fk hM hf6
    have hFKq := hFK.trans hFN hf6
    clear hM hZ hR hFK hlog hlog6 hk6 hf6
    have hM := hMq
    have hZ := hZq
    have hR := hRq
    have hFK := hFKq
    clear hMq hZq hRq hFKq
    refine hK.out _ _ (by exact ⟨hM.low rfl, hZ.cell rfl, hZ.cell rfl⟩) (fun hHeld => ?_)
    clear hK K
    try simp only [Act.put, List.setIfInBounds_toArray, List.set_cons_zero, List.set_cons_succ]
    refine wtk 9 hHeld ?_
    refine wtk 10 hHeld ?_
    refine wpAnyH_done (by kernel_rfl) ?_ _
    refine NoPanic.normal ?_
    clear hHeld
    by_cases her : er = 0
    · subst her
      have HTY := Lib.hid (turn_yes HP.out HWR.out)
      have z0 : w6.cell? ⟨Z, 0, none⟩ = some (.int .i64 pe) := hZ.cell rfl
      have z1 : w6.cell? ⟨Z, 1, none⟩ = some (.slice RA pL.length Rcap) := hZ.cell rfl
      obtain ⟨v, hX, hCv⟩ := hM.blk
      obtain ⟨A9, cap9, hv9⟩ := hCv.form
      rw [hv9] at hX
      have x8 : w6.cell? ⟨x, 8, none⟩ = some (.int .i64 (noteM V now).cf.epoch) := hX.cell (mcells_low rfl)
      have x9 : w6.cell? ⟨x, 9, none⟩ = some (.slice A9 (noteM V now).cf.chain.length cap9) := hX.cell (mcells_low rfl)
      have xf := hX.free
      have hZX : Z ≠ x := cells_ne hZ.kind hX.kind (by decide)
      go_upto_region 4 with (fail)
      have g8 := grown_setCell w6 x 8 (.int .i64 pe)
      have g9 := grown_setCell (w6.setCell ⟨x, 8, none⟩ (.int .i64 pe)) x 9 (.slice RA pL.length Rcap)
      have gg := grown_two g8 g9
      have hX2 := (hX.set 8 (.int .i64 pe)).set 9 (.slice RA pL.length Rcap)
      have hM7 : MAt B ((w6.setCell ⟨x, 8, none⟩ (.int .i64 pe)).setCell ⟨x, 9, none⟩ (.slice RA pL.length Rcap)) x b' (N + 200) { noteM V now with cf := ⟨pe, pL⟩ } l' := by
        refine MAt.putX (b' := b') (V' := { noteM V now with cf := ⟨pe, pL⟩ }) (v' := .slice RA pL.length Rcap) hM gg ?_ hR rfl rfl rfl rfl rfl hM.since ⟨Ne.symm hM.ne.2.2.1, Ne.symm hM.ne.2.2.2.2.1, Ne.symm hM.ne.2.2.2.2.2⟩ rfl rfl rfl rfl ⟨hM.ok.set, hrt, hM.ok.len, hM.ok.lives, hM.ok.beats, hM.ok.since⟩
        rw [← mcells_chain (.slice A9 (noteM V now).cf.chain.length cap9)]
        exact hX2
      have hg7 : FK (b'.list x) B w6 ((w6.setCell ⟨x, 8, none⟩ (.int .i64 pe)).setCell ⟨x, 9, none⟩ (.slice RA pL.length Rcap)) := FK.of_grown gg (MAt.mem (b := b') (x := x) x (by simp))
      have hK7 := hFK.trans hFN hg7
      have hR7 := hR.fk hM hg7
      have hZ7 := (hZ.grown g8 hZX).grown g9 hZX
      clear hM hFK hR hX hX2 g8 g9 gg hg7 x8 x9 xf z0 z1 hZ hCv hv9
      change Code.wp _ _ _ _ ((w6.setCell ⟨x, 8, none⟩ (.int .i64 pe)).setCell ⟨x, 9, none⟩ (.slice RA pL.length Rcap))
      generalize (w6.setCell ⟨x, 8, none⟩ (.int .i64 pe)).setCell ⟨x, 9, none⟩ (.slice RA pL.length Rcap) = w7 at *
      have z0 : w7.cell? ⟨Z, 0, none⟩ = some (.int .i64 pe) := hZ7.cell rfl
      have z1 : w7.cell? ⟨Z, 1, none⟩ = some (.slice RA pL.length Rcap) := hZ7.cell rfl
      go_wp2_with fail
      refine (mseat_any (L := pL) (by exact hM7) (by exact hR7) (w64_seats hrt) (by omega)).mono ?_
      rintro en w8 ⟨rfl, hM8, hK8⟩
      have HM := Lib.hid hM8
      have HK := Lib.hid (hK7.trans hFN hK8)
      clear hM7 hK7 hR7 hZ7 z0 z1 hM8 hK8
      go_wp2_with fail
      go_end0
      exact ⟨rfl, b', by rw [HTY.out]; exact HM.out.mono (by omega), HK.out, hFN⟩
    · have her' : (er == 0) = false := by simpa using her
      have HTF := Lib.hid (turn_full HP.out HWR.out her)
      have hll := write_fail HWR.out her
      subst hll
      have HM := Lib.hid hM
      have HK := Lib.hid hFK
      clear hM hFK hR hZ
      go_wp2_with fail
      go_end0
      exact ⟨rfl, b', by rw [HTF.out]; exact HM.out.mono (by omega), HK.out, hFN⟩
end Go.Proofs.YtomfmejodmfioaaGreat
