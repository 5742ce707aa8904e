/- OpbytesRow: for every operations and every bytes behind them the law answers true. No condition. -/
import Derived.Test.YtnfgojecgcienaaOpRow
import Derived.Test.YtnfgojecgcienaaOpAwake
import Derived.Test.YtnfgojecgcienaaOpEql
import Derived.Test.YtnfgojecgcienaaOpRefPut
namespace Go.Proofs.Ytnfgojecgcienaa
open Go.RowKit Go.ChangeShapes Go.WideShapes Go.Joins
open Go.ChangeMaps (open_string shut_string)
set_option linter.unusedVariables false

set_option maxRecDepth 100000 in
set_option maxHeartbeats 1000000 in
theorem OpbytesRow_out (r : List UInt8) (a : Option Addr) (len cap : Nat) (w : World) (hr : r.length ≤ maxLen) (hlen : len ≤ maxLen) (h : 20 < len ∨ 500 < r.length) :
    Calls Try.prog 5 #[.slice a len cap, .string ⟨r.toArray⟩] w fun e w' => e = .returned (.bool true) ∧ Below w.heap.size w w' := by
  unfold maxLen at hr hlen
  by_cases h1 : 20 < len
  · clear h
    go_enter Try.func5, Try.ntmps5
    go_wp2_with fail
    refine (awake_any _).mono ?_
    rintro e w1 ⟨rfl, b1⟩
    go_wp2_with fail
    refine (awake_any _).mono ?_
    rintro e w2 ⟨rfl, b2⟩
    have hb2 := below_step b1 b2
    go_wp2_with fail
    go_ret
    exact ⟨rfl, hb2⟩
  · have h2 : 500 < r.length := by omega
    clear h
    go_enter Try.func5, Try.ntmps5
    go_wp2_with fail
    refine (awake_any _).mono ?_
    rintro e w1 ⟨rfl, b1⟩
    go_wp2_with fail
    refine (awake_any _).mono ?_
    rintro e w2 ⟨rfl, b2⟩
    have hb2 := below_step b1 b2
    go_wp2_with fail
    go_ret
    exact ⟨rfl, hb2⟩

theorem str_join (s t : List UInt8) : (⟨s.toArray⟩ : ByteArray) ++ ⟨t.toArray⟩ = ⟨(s ++ t).toArray⟩ := by
  rw [ByteArray.mk_append_mk]

set_option maxRecDepth 100000 in
set_option maxHeartbeats 4000000 in
theorem OpbytesRow_in (r : List UInt8) (a : Option Addr) (L : List OpV) (cap : Nat) (w : World) (hr : r.length ≤ 500) (hlen : L.length ≤ 20) (hrow : OpRowAt w a L) :
    Calls Try.prog 5 #[.slice a L.length cap, .string ⟨r.toArray⟩] w fun e w' => e = .returned (.bool true) ∧ Below w.heap.size w w' := by
  obtain ⟨_, hoks, hcells⟩ := hrow
  obtain ⟨i0, hi0, hz0, hz1, hz2⟩ := info_parts op_full
  go_enter Try.func5, Try.ntmps5
  go_wp2_with fail
  refine (awake_any _).mono ?_
  rintro e w1 ⟨rfl, b1⟩
  go_wp2_with fail
  go_loopw [5, 6, 32] (fun s v i wr => ∃ (k : Nat) (M : List OpV), k ≤ L.length ∧ i = .int .i64 k ∧ s = .string ⟨(encOps M).toArray⟩ ∧ M.length ≤ k ∧ (∀ o ∈ M, OpOk o ∧ mayOp o = true) ∧ wr.ownsRow w.heap.size 23 10 v M.length (opsCells M) ∧ Below w.heap.size w wr) (fun _ _ i _ => L.length - (intOf i).toNat)
  case atStart => exact ⟨0, [], Nat.zero_le _, rfl, rfl, Nat.zero_le _, by simp, World.ownsRow_nil _ _ _ _, b1⟩
  case round =>
    obtain ⟨k, M, hk, rfl, rfl, hMk, hM, hown, hbk⟩ := hrel
    clear b1
    have hel := encOps_len M hM
    by_cases hlt : k < L.length
    · obtain ⟨ab, off, rfl, hab, hcell⟩ := hcells (by omega)
      obtain ⟨o, ho⟩ : ∃ o, L[k]? = some o := ⟨_, List.getElem?_eq_getElem hlt⟩
      have hok := hoks o (List.mem_of_getElem? ho)
      have hcell := hcell k o ho
      obtain ⟨kd, v8, s0⟩ := o
      obtain ⟨a1, a2, a3, a4, a5, a6, a7, a8, rfl⟩ := list8 hok.1
      have hcell := fun j u hj => (hbk.cell (p := ⟨ab, off + k * 10 + j, none⟩) hab).trans (hcell j u hj)
      obtain ⟨c0, c1, c2, c3, c4, c5, c6, c7, c8, c9⟩ := cells_conj rfl hcell
      clear hcell hcells ho hab
      go_upto_region 8 with (fail)
      have hP := BlkAt.new wr 23 (opCells ⟨kd, [a1, a2, a3, a4, a5, a6, a7, a8], s0⟩)
      have hbP := hbk.alloc hbk.size (.cells (opCells ⟨kd, [a1, a2, a3, a4, a5, a6, a7, a8], s0⟩).toArray 23)
      have hownP := hown.alloc (.cells (opCells ⟨kd, [a1, a2, a3, a4, a5, a6, a7, a8], s0⟩).toArray 23)
      change Code.wp _ _ _ _ (wr.alloc (.cells (opCells ⟨kd, [a1, a2, a3, a4, a5, a6, a7, a8], s0⟩).toArray 23))
      generalize wr.alloc (.cells (opCells ⟨kd, [a1, a2, a3, a4, a5, a6, a7, a8], s0⟩).toArray 23) = W at *
      generalize wr.heap.size = X at *
      clear hown hbk c0 c1 c2 c3 c4 c5 c6 c7 c8 c9
      by_cases hc : (s0.length : Int) ≤ 1000
      · obtain ⟨h0, h1, h2, h3, h4, h5, h6, h7, h8, h9⟩ := op_conj hP
        go_wp2_with fail
        refine (qmay_any (o := ⟨kd, [a1, a2, a3, a4, a5, a6, a7, a8], s0⟩) hok _).mono ?_
        rintro e w2 ⟨rfl, b2⟩
        have hP2 := hP.below b2
        have hb2 := below_step hbP b2
        have hown2 := hownP.kept (below_any (row := none) b2) (Classical.em _)
        clear h0 h1 h2 h3 h4 h5 h6 h7 h8 h9 hP hbP hownP b2
        by_cases hm : mayOp ⟨kd, [a1, a2, a3, a4, a5, a6, a7, a8], s0⟩ = true
        · rw [hm]
          obtain ⟨h0, h1, h2, h3, h4, h5, h6, h7, h8, h9⟩ := op_conj hP2
          have HM := Lib.hid hm
          clear hm
          have hel3 := encOp_len hok.1
          simp only at hel3
          have hz3 : ¬ 9223372036854775807 < (encOps M).length + (encOp ⟨kd, [a1, a2, a3, a4, a5, a6, a7, a8], s0⟩).length := by omega
          go_wp2_with fail
          refine (qprint_any (o := ⟨kd, [a1, a2, a3, a4, a5, a6, a7, a8], s0⟩) hok (by simp only; omega) _).mono ?_
          rintro e w3 ⟨rfl, b3⟩
          have hP3 := hP2.below b3
          have hb3 := below_step hb2 b3
          have hown3 := hown2.kept (below_any (row := none) b3) (Classical.em _)
          clear h0 h1 h2 h3 h4 h5 h6 h7 h8 h9 hP2 hb2 hown2 b3
          obtain ⟨h0, h1, h2, h3, h4, h5, h6, h7, h8, h9⟩ := op_conj hP3
          go_wp2_with (at_builtin; refine wpList_append_lies _ rfl (.tmp 48) (.tmp 50) 35 rfl w.heap.size 23 i0 _ 10 88 Try.underlying35 hi0 hz0 hz1 hz2 rfl (by omega) _ _ _ rfl (hown3.alloc _) ⟨w3.heap.size, 0, none⟩ 1 1 (opCells ⟨kd, [a1, a2, a3, a4, a5, a6, a7, a8], s0⟩) rfl rfl ?c1 ?c2 (by omega) ?c3 ?c4 ?c5 (w3.heap.size + 1) ?c6 ?_)
          case c1 => exact World.news_of_block (heap_alloc_new _ _)
          case c2 => exact opCells_one
          case c3 => unfold maxLen; omega
          case c4 => omega
          case c5 => have := hb3.size; simp; omega
          case c6 => simp
          intro g' cap' w' hown' hg' hat' hlt'
          have hb4 : Below w.heap.size w w' := (hb3.alloc hb3.size _).grown hg' (by have := hb3.size; simp; omega) (fun k hk => (hown3.lt k hk).1)
          clear hg' hat' hb3 hown3 h0 h1 h2 h3 h4 h5 h6 h7 h8 h9 hP3
          go_wp2_with fail
          go_roundw
          case rel => exact ⟨k + 1, M ++ [⟨kd, [a1, a2, a3, a4, a5, a6, a7, a8], s0⟩], by omega, by go_num, by rw [encOps_snoc, ← str_join], by simp; omega, by
            intro x hx
            rcases List.mem_append.1 hx with hx | hx
            · exact hM x hx
            · obtain rfl : x = ⟨kd, [a1, a2, a3, a4, a5, a6, a7, a8], s0⟩ := by simpa using hx
              exact ⟨hok, HM.out⟩, by rw [opsCells_snoc, List.length_append]; exact hown', hb4⟩
          case measure => simp [intOf]; omega
        · have hm : mayOp ⟨kd, [a1, a2, a3, a4, a5, a6, a7, a8], s0⟩ = false := by simpa using hm
          rw [hm]
          go_wp2_with fail
          go_roundw
          case rel => exact ⟨k + 1, M, by omega, by go_num, rfl, by omega, hM, hown2, hb2⟩
          case measure => simp [intOf]; omega
      · have h9 := hP.cell (op_cell9 hok.1)
        have hlc := hok.2.2.2
        unfold maxLen at hlc
        simp only at h9 hlc
        go_wp2_with fail
        go_roundw
        case rel => exact ⟨k + 1, M, by omega, by go_num, rfl, by omega, hM, hownP, hbP⟩
        case measure => simp [intOf]; omega
    · obtain ⟨W1, rfl⟩ : ∃ x : World, x = wr := ⟨_, rfl⟩
      have hel2 : ¬ 9223372036854775807 < (encOps M).length + r.length := by omega
      have hj := str_join (encOps M) r
      go_wp2_with fail
      refine (read_any _ _).mono ?_
      rintro e w2 ⟨b, rfl, hR, hb, b2⟩
      obtain ⟨A, capv, rfl, hnc, hcapv, hform⟩ := owns_slice' hown
      go_upto_region 13 with (fail)
      have hF : RfAt (w2.alloc (.cells #[.string ⟨(encOps M ++ r).toArray⟩, .int .i64 0, .int .i64 0] 40)) w2.heap.size (encOps M ++ r) 0 0 := heap_alloc_new _ _
      have hR0 := hR.below ((Below.refl _ _).alloc (Nat.le_refl _) (.cells #[.string ⟨(encOps M ++ r).toArray⟩, .int .i64 0, .int .i64 0] 40))
      have hb0 := b2.alloc b2.size (.cells #[.string ⟨(encOps M ++ r).toArray⟩, .int .i64 0, .int .i64 0] 40)
      have hne : w2.heap.size ≠ b := by have := hR.lt; omega
      have hB2 : W1.heap.size ≤ w2.heap.size := b2.size
      change Code.wp _ _ _ _ (w2.alloc (.cells #[.string ⟨(encOps M ++ r).toArray⟩, .int .i64 0, .int .i64 0] 40))
      generalize w2.alloc (.cells #[.string ⟨(encOps M ++ r).toArray⟩, .int .i64 0, .int .i64 0] 40) = w3 at *
      generalize w2.heap.size = B at *
      have hS : (encOps M ++ r).length ≤ 1000000 := by rw [List.length_append]; omega
      generalize hSd : encOps M ++ r = S at *
      have hk0 : S.drop 0 = encOps (M.drop 0) ++ r := by rw [List.drop_zero, List.drop_zero, hSd]
      have hR0 : RdAt w3 b (encOps (M.drop 0) ++ r) 0 := by rw [List.drop_zero, hSd]; exact hR0
      clear hR b2 hj hown hel2 hSd
      go_wp2_with fail
      go_loopw [64] (fun i wr => ∃ k2 q : Nat, k2 ≤ M.length ∧ i = .int .i64 k2 ∧ RdAt wr b (encOps (M.drop k2) ++ r) 0 ∧ RfAt wr B S q 0 ∧ q ≤ S.length ∧ S.drop q = encOps (M.drop k2) ++ r ∧ Below W1.heap.size W1 wr) (fun i _ => M.length - (intOf i).toNat)
      case atStart => exact ⟨0, 0, Nat.zero_le _, rfl, hR0, hF, Nat.zero_le _, hk0, hb0⟩
      case round =>
        obtain ⟨k2, q, hk2, rfl, hR, hF, hq, hqd, hbx⟩ := hrel
        clear hR0 hb0 hk0
        by_cases hlt2 : k2 < M.length
        · obtain ⟨g, rfl, hgw, hgl, hcell⟩ := hform (by omega)
          obtain ⟨o, ho⟩ : ∃ o, M[k2]? = some o := ⟨_, List.getElem?_eq_getElem hlt2⟩
          obtain ⟨hok, hm⟩ := hM o (List.mem_of_getElem? ho)
          have hat := opsCells_at M (fun x hx => (hM x hx).1) k2 o ho
          have hcell : ∀ j u, (opCells o)[j]? = some u → wr.cell? ⟨g, k2 * 10 + j, none⟩ = some u := fun j u hj => by
            have hjl := (List.getElem?_eq_some_iff.1 hj).1
            rw [opCells_len hok.1] at hjl
            rw [hbx.cell (p := ⟨g, k2 * 10 + j, none⟩) hgl, hcell _ (by omega)]
            exact hat j u hj
          have hde : encOps (M.drop k2) ++ r = encOp o ++ (encOps (M.drop (k2 + 1)) ++ r) := by rw [encOps_drop ho, List.append_assoc]
          rw [hde] at hR hqd
          have HT := Lib.hid (take_enc hok hm (encOps (M.drop (k2 + 1)) ++ r))
          have HQ := Lib.hid (show qTake (encOp o ++ (encOps (M.drop (k2 + 1)) ++ r)) 0 = (o, true, encOps (M.drop (k2 + 1)) ++ r, 0) by
            rw [qTake, raw_enc hok hm]
            simp only [hm, and_self, if_true])
          have hlen2 : (encOp o ++ (encOps (M.drop (k2 + 1)) ++ r)).length ≤ 1000000 := by
            rw [← hqd, List.length_drop]
            omega
          generalize hTe : encOps (M.drop (k2 + 1)) ++ r = T at *
          have HTE := Lib.hid hTe
          clear hTe
          obtain ⟨kd, v8, s0⟩ := o
          obtain ⟨a1, a2, a3, a4, a5, a6, a7, a8, rfl⟩ := list8 hok.1
          obtain ⟨c0, c1, c2, c3, c4, c5, c6, c7, c8, c9⟩ := cells_conj rfl hcell
          clear hform hcell hat ho hm hde
          go_upto_region 16 with (fail)
          have hP := BlkAt.new wr 23 (opCells ⟨kd, [a1, a2, a3, a4, a5, a6, a7, a8], s0⟩)
          have hbP := hbx.alloc hbx.size (.cells (opCells ⟨kd, [a1, a2, a3, a4, a5, a6, a7, a8], s0⟩).toArray 23)
          have hRP := hR.below ((Below.refl _ _).alloc (Nat.le_refl _) (.cells (opCells ⟨kd, [a1, a2, a3, a4, a5, a6, a7, a8], s0⟩).toArray 23))
          have hFP := hF.below ((Below.refl _ _).alloc (Nat.le_refl _) (.cells (opCells ⟨kd, [a1, a2, a3, a4, a5, a6, a7, a8], s0⟩).toArray 23))
          have hXb : wr.heap.size ≠ b := by have := hR.lt; omega
          have hXB : wr.heap.size ≠ B := by have := hF.lt; omega
          change Code.wp _ _ _ _ (wr.alloc (.cells (opCells ⟨kd, [a1, a2, a3, a4, a5, a6, a7, a8], s0⟩).toArray 23))
          generalize wr.alloc (.cells (opCells ⟨kd, [a1, a2, a3, a4, a5, a6, a7, a8], s0⟩).toArray 23) = w4 at *
          generalize wr.heap.size = X at *
          clear hR hF hbx c0 c1 c2 c3 c4 c5 c6 c7 c8 c9
          go_wp2_with fail
          refine (take_any (by exact hRP) hlen2).mono ?_
          rintro e w5 ⟨rfl, hR5, g5⟩
          rw [HT.out] at hR5
          rw [HT.out]
          simp only at hR5 ⊢
          rw [op_lit]
          have hP5 := hP.grown g5 hXb
          have hF5 := hFP.grown g5 hne
          have hb5 := grown_below hbP g5 hb
          clear hP hFP hRP hbP g5
          go_upto_region 17 with (fail)
          have hY := BlkAt.new w5 23 (opCells ⟨kd, [a1, a2, a3, a4, a5, a6, a7, a8], s0⟩)
          have hb6 := hb5.alloc hb5.size (.cells (opCells ⟨kd, [a1, a2, a3, a4, a5, a6, a7, a8], s0⟩).toArray 23)
          have hR6 := hR5.below ((Below.refl _ _).alloc (Nat.le_refl _) (.cells (opCells ⟨kd, [a1, a2, a3, a4, a5, a6, a7, a8], s0⟩).toArray 23))
          have hF6 := hF5.below ((Below.refl _ _).alloc (Nat.le_refl _) (.cells (opCells ⟨kd, [a1, a2, a3, a4, a5, a6, a7, a8], s0⟩).toArray 23))
          have hP6 := hP5.alloc (.cells (opCells ⟨kd, [a1, a2, a3, a4, a5, a6, a7, a8], s0⟩).toArray 23)
          change Code.wp _ _ _ _ (w5.alloc (.cells (opCells ⟨kd, [a1, a2, a3, a4, a5, a6, a7, a8], s0⟩).toArray 23))
          generalize w5.alloc (.cells (opCells ⟨kd, [a1, a2, a3, a4, a5, a6, a7, a8], s0⟩).toArray 23) = w6 at *
          generalize w5.heap.size = Y at *
          clear hR5 hF5 hb5 hP5
          obtain ⟨h0, h1, h2, h3, h4, h5, h6, h7, h8, h9⟩ := op_conj hP6
          obtain ⟨j0, j1, j2, j3, j4, j5, j6, j7, j8, j9⟩ := op_conj hY
          go_wp2_with fail
          refine (err_any (by exact hR6)).mono ?_
          rintro e w' ⟨rfl, rfl⟩
          clear h0 h1 h2 h3 h4 h5 h6 h7 h8 h9 j0 j1 j2 j3 j4 j5 j6 j7 j8 j9 hP6 hY
          go_wp2_with fail
          refine (qotake_any (by exact hF6) hS hq).mono ?_
          rintro e w7 ⟨rfl, ⟨q', hq', hqd', hF7⟩, g7⟩
          rw [hqd, HQ.out] at hqd' hF7
          rw [hqd, HQ.out]
          simp only at hqd' hF7 ⊢
          have hR7 := hR6.grown g7 hne.symm
          have hb7 := grown_below hb6 g7 hB2
          clear hR6 hF6 hb6 g7
          go_wp2_with fail
          go_roundw
          case rel => exact ⟨k2 + 1, q', by omega, by go_num, by rw [HTE.out]; exact hR7, hF7, hq', by rw [HTE.out]; exact hqd', hb7⟩
          case measure => simp [intOf]; omega
        · have hd0 : encOps (M.drop k2) ++ r = r := by rw [List.drop_of_length_le (by omega)]; rfl
          rw [hd0] at hR hqd
          clear hd0 hform
          have hlf : leftOf r 0 = r.length := by rw [leftOf, if_pos rfl]
          go_wp2_with fail
          refine (left_any (by exact hR)).mono ?_
          rintro e w' ⟨rfl, rfl⟩
          rw [hlf]
          have hrl : r.length ≤ 1000000 := by omega
          go_wp2_with fail
          refine (take_any (by exact hR) hrl).mono ?_
          rintro e w5 ⟨rfl, hR5, g5⟩
          have hF5 := hF.grown g5 hne
          have hb5 := grown_below hbx g5 hb
          have HQ := Lib.hid (show (∀ x : Nat, S.drop q = r → qTake (S.drop q) 0 = qTake r 0) from fun _ h => by rw [h])
          obtain ⟨t1, t2, _⟩ := take_q r 0
          have hok := (qTake_ok r 0 hrl).1
          rw [t1]
          generalize (takeOp r 0).2.2 = E at *
          generalize (takeOp r 0).2.1 = L5 at *
          have hQ : qTake (S.drop q) 0 = qTake r 0 := by rw [hqd]
          generalize qTake r 0 = Q at *
          obtain ⟨⟨kd, v8, s0⟩, ok, l5, e5⟩ := Q
          simp only at t2 hok ⊢
          obtain ⟨a1, a2, a3, a4, a5, a6, a7, a8, rfl⟩ := list8 hok.1
          rw [op_lit]
          have HQ := Lib.hid hQ
          have HT2 := Lib.hid t2
          clear hR hF hbx g5 t1 t2 hQ hqd
          go_upto_region 24 with (fail)
          have hP := BlkAt.new w5 23 (opCells ⟨kd, [a1, a2, a3, a4, a5, a6, a7, a8], s0⟩)
          have hb6 := hb5.alloc hb5.size (.cells (opCells ⟨kd, [a1, a2, a3, a4, a5, a6, a7, a8], s0⟩).toArray 23)
          have hR6 := hR5.below ((Below.refl _ _).alloc (Nat.le_refl _) (.cells (opCells ⟨kd, [a1, a2, a3, a4, a5, a6, a7, a8], s0⟩).toArray 23))
          have hF6 := hF5.below ((Below.refl _ _).alloc (Nat.le_refl _) (.cells (opCells ⟨kd, [a1, a2, a3, a4, a5, a6, a7, a8], s0⟩).toArray 23))
          have hXB : w5.heap.size ≠ B := by have := hF5.lt; omega
          change Code.wp _ _ _ _ (w5.alloc (.cells (opCells ⟨kd, [a1, a2, a3, a4, a5, a6, a7, a8], s0⟩).toArray 23))
          generalize w5.alloc (.cells (opCells ⟨kd, [a1, a2, a3, a4, a5, a6, a7, a8], s0⟩).toArray 23) = w6 at *
          generalize w5.heap.size = X at *
          clear hR5 hF5 hb5
          go_wp2_with fail
          refine (qotake_any (by exact hF6) hS hq).mono ?_
          rintro e w7 ⟨rfl, _, g7⟩
          rw [HQ.out]
          simp only
          rw [op_lit]
          have hR7 := hR6.grown g7 hne.symm
          have hb7 := grown_below hb6 g7 hB2
          have hP7 := hP.grown g7 hXB
          clear hR6 hF6 hb6 g7 hP
          go_upto_region 25 with (fail)
          have hY := BlkAt.new w7 23 (opCells ⟨kd, [a1, a2, a3, a4, a5, a6, a7, a8], s0⟩)
          have hb8 := hb7.alloc hb7.size (.cells (opCells ⟨kd, [a1, a2, a3, a4, a5, a6, a7, a8], s0⟩).toArray 23)
          have hR8 := hR7.below ((Below.refl _ _).alloc (Nat.le_refl _) (.cells (opCells ⟨kd, [a1, a2, a3, a4, a5, a6, a7, a8], s0⟩).toArray 23))
          have hP8 := hP7.alloc (.cells (opCells ⟨kd, [a1, a2, a3, a4, a5, a6, a7, a8], s0⟩).toArray 23)
          change Code.wp _ _ _ _ (w7.alloc (.cells (opCells ⟨kd, [a1, a2, a3, a4, a5, a6, a7, a8], s0⟩).toArray 23))
          generalize w7.alloc (.cells (opCells ⟨kd, [a1, a2, a3, a4, a5, a6, a7, a8], s0⟩).toArray 23) = w8 at *
          generalize w7.heap.size = Y at *
          clear hR7 hb7 hP7
          obtain ⟨h0, h1, h2, h3, h4, h5, h6, h7, h8, h9⟩ := op_conj hP8
          obtain ⟨j0, j1, j2, j3, j4, j5, j6, j7, j8, j9⟩ := op_conj hY
          have hbe := below_step hbk hb8
          go_wp2_with fail
          refine (err_any (by exact hR8)).mono ?_
          rintro e w' ⟨rfl, rfl⟩
          cases ok with
          | true =>
            obtain rfl : E = 0 := HT2.out.2 rfl
            go_wp2_with fail
            go_ret
            exact ⟨rfl, hbe⟩
          | false =>
            have hE : (E == 0) = false := by
              have : ¬ E = 0 := fun h => by simpa using HT2.out.1 h
              simpa using this
            go_wp2_with fail
            go_ret
            exact ⟨rfl, hbe⟩

theorem OpbytesRow_walk {H : Type} {enc : TypeId × Value → H} {base : Nat} {d : DataW H} {p : List MemPlace} (v : Value) (s : ByteArray) (w : World) (hv : Value.okWide Try.prog w .any base 35 v) (ht : DataW.Trod enc Try.prog w 0 (fun _ => true) true 35 v d p) (hs : s.size ≤ maxLen) :
    Calls Try.prog 5 #[v, .string s] w fun e w' => e = .returned (.bool true) ∧ Below w.heap.size w w' := by
  obtain ⟨l, rfl, hl⟩ := str_list s
  obtain ⟨a, L, cap, rfl, hz⟩ := open_ops hv ht
  by_cases h : 20 < L.length ∨ 500 < l.length
  · exact OpbytesRow_out l a L.length cap w (by omega) hz.1 h
  · exact OpbytesRow_in l a L cap w (by omega) (by omega) hz


theorem OpbytesRow_calls (H : Type) (enc : TypeId × Value → H) (W : World) (base : Nat) (args : Array Value) (ds gs : List (DataW H)) (before : List MemPlace)
    (hval : ∀ (j : Nat) t v, Try.f5.params[j]? = some t → args[j]? = some v → Value.okWide Try.prog W .any base t v)
    (hW : DataW.Whole enc Try.prog Try.f5.params.toList Rows.opbytesRowSpec.vars false W args.toList ds gs before) :
    Calls Try.prog 5 args W fun e W' => e = .returned (.bool true) ∧ Below W.heap.size W W' := by
  obtain ⟨p, q, hA, hV, rfl, hfz, hnd⟩ := hW
  rw [Try.params5] at hA hval
  obtain ⟨v0, vs0, d0, ds0, p0, q0, hargs, rfl, rfl, h0, r0⟩ := trodAll_cons hA
  obtain ⟨v1, vs1, d1, ds1, p1, q1, rfl, rfl, rfl, h1, r1⟩ := trodAll_cons r0
  obtain ⟨rfl, rfl, rfl⟩ := trodAll_nil r1
  obtain rfl : args = #[v0, v1] := Array.toList_inj.1 hargs
  obtain ⟨x1, rfl, rfl, rfl, w1⟩ := open_string Try.underlying9 (hval 1 9 v1 rfl rfl) h1
  exact OpbytesRow_walk v0 x1 W (hval 0 35 v0 rfl rfl) h0 w1

set_option maxRecDepth 100000 in
theorem OpbytesRow_lifted (os : Os) (started : os.Started) (H : Type) (enc : TypeId × Value → H) :
    ReturnsInHanded {} Try.checked os 5 .any (Rows.opbytesRowSpec.pre6 enc Try.prog Try.f5 Rows.opbytesRowRow.domain false) (Rows.opbytesRowSpec.post enc Try.prog Try.f5 false true false false) := by
  refine returnsInHanded_of_change (C := Try.checked) own started (by kernel_rfl) Try.func5
    (ChangeSpec.witness6 (enc := enc) (C := Try.checked) false ⟨#[], #[.slice none 0 0, .string ByteArray.empty], []⟩ 8 (by kernel_rfl) (by kernel_rfl) (by kernel_rfl) (by kernel_rfl)) ?_
  intro W base args ds gs before hval0 hW hcnd _
  have hval : ∀ (j : Nat) t v, Try.f5.params[j]? = some t → args[j]? = some v → Value.okWide Try.prog W .any base t v := hval0
  refine (OpbytesRow_calls H enc W base args ds gs before hval hW).mono fun e W' ⟨he, bel⟩ => ?_
  exact ⟨_, he, law_post (ts := [35, 9]) (by rw [Try.params5]) (by intro t ht; simp only [List.mem_cons, List.not_mem_nil, or_false] at ht; rcases ht with rfl | rfl <;> exact ⟨by kernel_rfl, of_decide_eq_true (by kernel_rfl)⟩) hW rfl
    (fun ds h => by match ds, h with | [_, _], _ => rfl) (by kernel_rfl) bel⟩

theorem OpbytesRow_over : Rows.opbytesRowRow.holds Try.pinned (OpenSpec.ofChange Rows.opbytesRowSpec) :=
  OpenClaim.holds_of_wide 5 Try.f5 rfl rfl rfl rfl rfl rfl rfl ⟨rfl, rfl, rfl, rfl, rfl⟩ rfl rfl rfl rfl rfl (by kernel_rfl) Try.func5 (by kernel_rfl)
    (of_decide_eq_true (by kernel_rfl)) (by unfold Func.isWrapper; first | (rw [if_pos (by decide +kernel)]; kernel_rfl) | (rw [if_neg (by decide +kernel)]; exact ⟨rfl, rfl⟩))
    (fun os started H enc _ => OpbytesRow_lifted os started H enc)

/-- The statement. -/
theorem OpbytesRow_proved : Rows.OpbytesRowSaid := OpbytesRow_over

end Go.Proofs.Ytnfgojecgcienaa
