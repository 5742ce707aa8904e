/- The law's first line: answers that the document fixes. -/
import Derived.Test.YtnaabaahfjklhaaGreatNetTake
import Derived.Test.YtnaabaahfjklhaaGreatWireRefSame
import Derived.Test.YtnaabaahfjklhaaGreatWireOk
namespace Go.Proofs.YtnaabaahfjklhaaGreat
open Go.RowKit Go.ChangeShapes Go.WideShapes Go.Joins Go.Deep Fld
set_option linter.unusedVariables false

def whereM (n : Int) : MsgV := { msgZero with kind := 15, dst := 200, fn := n }
theorem whereM_goes {n : Int} (h : 0 ≤ n ∧ n ≤ 1000000) : Goes (whereM n) := by
  have hn : W64 n := W64.mk (by omega) (by omega)
  refine ⟨MOk.mk' (W64.mk (x := 15) (by decide) (by decide)) (W64.mk (x := 200) (by decide) (by decide)) hn w64_zero w64_zero w64_zero w64_zero w64_zero w64_zero w64_zero w64_zero w64_zero w64_zero w64_zero w64_zero opZero_ok (by intro f hf; cases hf), ?_, ?_⟩
  · refine mayW_iff.2 ⟨show (1 : Int) ≤ 15 by decide, show (15 : Int) ≤ 15 by decide, ?_, Nat.zero_le _, fun h => ?_, fun h => ?_⟩
    · simp [onlyM, fieldsOf, setF, whereM, msgZero]
    · simp [whereM] at h
    · simp [whereM] at h
  · have h1 : textOf (whereM n) = kindB 15 :: (encI [200] ++ (encI [n, 0] ++ [])) := by simp [textOf, whereM, msgZero, fieldsOf, encFld]
    have h2 := encI_len [200]
    have h3 := encI_len [n, 0]
    unfold ptext
    rw [frame_len, h1, List.length_cons, List.length_append, List.length_append]
    simp only [List.length_cons, List.length_nil] at h2 h3 ⊢
    omega
theorem zero_print : printM msgZero = ([], 1) := by rw [printM, if_neg (by rw [mayW_zero]; simp)]

set_option maxRecDepth 100000 in
set_option maxHeartbeats 1000000 in

theorem where_any (n : Int) (w : World) : Calls Tryz.prog 17 #[.int .i64 n] w fun en w' => ∃ u, en = .returned u ∧ (whereM n).At w' u ∧ Below w.heap.size w w' := by
  have hlen : (msgCells (whereM n) (.slice none 0 0) (.slice none 0 0)).length = 28 := rfl
  have hone : (msgCells (whereM n) (.slice none 0 0) (.slice none 0 0)).toArray.all (·.oneCell') = true := by simp [msgCells, whereM, msgZero, opCells, opZero, icells, Value.oneCell']
  go_enter Tryz.func17, Tryz.ntmps17
  go_upto_region 1 with (fail)
  have hD : BlkAt (w.alloc (.cells #[.int .i64 0, .int .i64 0, .int .i64 0, .int .i64 0, .int .i64 0, .int .i64 0, .int .i64 0, .int .i64 0, .int .i64 0, .int .i64 0, .bool false, .int .i64 0, .int .i64 0, .int .i64 0, .int .i64 0, .int .i64 0, .int .i64 0, .int .i64 0, .int .i64 0, .int .i64 0, .string ⟨#[]⟩, .int .i64 0, .int .i64 0, .int .i64 0, .int .i64 0, .slice none 0 0, .slice none 0 0, .int .i64 0] 40)) w.heap.size 40 [.int .i64 0, .int .i64 0, .int .i64 0, .int .i64 0, .int .i64 0, .int .i64 0, .int .i64 0, .int .i64 0, .int .i64 0, .int .i64 0, .bool false, .int .i64 0, .int .i64 0, .int .i64 0, .int .i64 0, .int .i64 0, .int .i64 0, .int .i64 0, .int .i64 0, .int .i64 0, .string ⟨#[]⟩, .int .i64 0, .int .i64 0, .int .i64 0, .int .i64 0, .slice none 0 0, .slice none 0 0, .int .i64 0] := BlkAt.new w 40 [.int .i64 0, .int .i64 0, .int .i64 0, .int .i64 0, .int .i64 0, .int .i64 0, .int .i64 0, .int .i64 0, .int .i64 0, .int .i64 0, .bool false, .int .i64 0, .int .i64 0, .int .i64 0, .int .i64 0, .int .i64 0, .int .i64 0, .int .i64 0, .int .i64 0, .int .i64 0, .string ⟨#[]⟩, .int .i64 0, .int .i64 0, .int .i64 0, .int .i64 0, .slice none 0 0, .slice none 0 0, .int .i64 0]
  have hb : Below w.heap.size w (w.alloc (.cells #[.int .i64 0, .int .i64 0, .int .i64 0, .int .i64 0, .int .i64 0, .int .i64 0, .int .i64 0, .int .i64 0, .int .i64 0, .int .i64 0, .bool false, .int .i64 0, .int .i64 0, .int .i64 0, .int .i64 0, .int .i64 0, .int .i64 0, .int .i64 0, .int .i64 0, .int .i64 0, .string ⟨#[]⟩, .int .i64 0, .int .i64 0, .int .i64 0, .int .i64 0, .slice none 0 0, .slice none 0 0, .int .i64 0] 40)) := (Below.refl w.heap.size w).alloc (Nat.le_refl _) _
  have hWs : w.heap.size + 1 ≤ (w.alloc (.cells #[.int .i64 0, .int .i64 0, .int .i64 0, .int .i64 0, .int .i64 0, .int .i64 0, .int .i64 0, .int .i64 0, .int .i64 0, .int .i64 0, .bool false, .int .i64 0, .int .i64 0, .int .i64 0, .int .i64 0, .int .i64 0, .int .i64 0, .int .i64 0, .int .i64 0, .int .i64 0, .string ⟨#[]⟩, .int .i64 0, .int .i64 0, .int .i64 0, .int .i64 0, .slice none 0 0, .slice none 0 0, .int .i64 0] 40)).heap.size := by simp
  change Code.wp _ _ _ _ (w.alloc (.cells #[.int .i64 0, .int .i64 0, .int .i64 0, .int .i64 0, .int .i64 0, .int .i64 0, .int .i64 0, .int .i64 0, .int .i64 0, .int .i64 0, .bool false, .int .i64 0, .int .i64 0, .int .i64 0, .int .i64 0, .int .i64 0, .int .i64 0, .int .i64 0, .int .i64 0, .int .i64 0, .string ⟨#[]⟩, .int .i64 0, .int .i64 0, .int .i64 0, .int .i64 0, .slice none 0 0, .slice none 0 0, .int .i64 0] 40))
  generalize w.alloc (.cells #[.int .i64 0, .int .i64 0, .int .i64 0, .int .i64 0, .int .i64 0, .int .i64 0, .int .i64 0, .int .i64 0, .int .i64 0, .int .i64 0, .bool false, .int .i64 0, .int .i64 0, .int .i64 0, .int .i64 0, .int .i64 0, .int .i64 0, .int .i64 0, .int .i64 0, .int .i64 0, .string ⟨#[]⟩, .int .i64 0, .int .i64 0, .int .i64 0, .int .i64 0, .slice none 0 0, .slice none 0 0, .int .i64 0] 40) = W at *
  obtain ⟨D, hDD⟩ : ∃ D, D = w.heap.size := ⟨_, rfl⟩
  have hDw : w.heap.size ≤ D := Nat.le_of_eq hDD.symm
  rw [← hDD] at hD ⊢
  clear hDD hWs
  have hl2 : (msgCells (whereM n) (.slice none 0 0) (.slice none 0 0)).length = ([.int .i64 0, .int .i64 0, .int .i64 0, .int .i64 0, .int .i64 0, .int .i64 0, .int .i64 0, .int .i64 0, .int .i64 0, .int .i64 0, .bool false, .int .i64 0, .int .i64 0, .int .i64 0, .int .i64 0, .int .i64 0, .int .i64 0, .int .i64 0, .int .i64 0, .int .i64 0, .string ⟨#[]⟩, .int .i64 0, .int .i64 0, .int .i64 0, .int .i64 0, .slice none 0 0, .slice none 0 0, .int .i64 0] : List Value).length := by rw [hlen]; rfl
  have HM2 := Lib.hid (hD.stored (vs := msgCells (whereM n) (.slice none 0 0) (.slice none 0 0)) hl2)
  have HT2 := Lib.hid (blk_there2 hD hl2)
  have G := grown_setCells D (msgCells (whereM n) (.slice none 0 0) (.slice none 0 0)) 0 W
  have HB2 := Lib.hid (grown_below hb G hDw)
  clear hD hb G hl2
  go_wp2_with (refine wpList_store_mid rfl 40 (.tmp 2) (.tmp 5) rfl D 0 (msgCells (whereM n) (.slice none 0 0) (.slice none 0 0)).toArray rfl rfl (by exact HT2.out) (by rw [List.size_toArray, hlen]; exact msg_info) hone ?_; rw [List.toList_toArray])
  exact bodyPost_ret (v := .agg (msgCells (whereM n) (.slice none 0 0) (.slice none 0 0)).toArray) (results_cell_row rfl _ _ D 40 (msgCells (whereM n) (.slice none 0 0) (.slice none 0 0)).toArray (0, 0) _ rfl HM2.out Tryz.underlying40 rfl (by rw [List.size_toArray, hlen]; exact msg_info)) rfl ⟨_, rfl, At.lit _ rfl rfl _, HB2.out⟩

set_option maxRecDepth 100000 in
set_option maxHeartbeats 4000000 in

theorem awake_net (w : World) : Calls Tryz.prog 9 #[] w fun e w' => e = .returned (.bool true) ∧ Below w.heap.size w w' := by
  have g0 := whereM_goes (n := 100) (by decide)
  have g1 := whereM_goes (n := 101) (by decide)
  go_enter Tryz.func9, Tryz.ntmps9
  go_wp2_with fail
  refine (nnew_any _).mono ?_
  rintro en w1 ⟨b, rfl, hN, hb⟩
  have hbw : w.heap.size ≤ b := hN.1
  have hv : ∀ j, (Value.slice none 0 0).ownBlock = some j → w.heap.size ≤ j := by simp [Value.ownBlock]
  go_wp2_with fail
  refine (where_any 100 _).mono ?_
  rintro en w2 ⟨u, rfl, hA, b2⟩
  have hNq := hN.below b2
  clear hN
  have hN := hNq
  clear hNq
  have hbq := below_step hb b2
  clear hb
  have hb := hbq
  clear hbq b2
  go_wp2_with fail
  refine (nsend_any (by exact hN) (by decide) (by exact hA) g0.ok (by decide) (by decide) (sendN_some g0 (by decide))).mono ?_
  rintro en wz ⟨rfl, v2, hN2, hk2, hr2⟩
  have hv2 : ∀ j, v2.ownBlock = some j → w.heap.size ≤ j := fun j hj => by
    rcases hr2 j hj with h1 | h1
    · exact hv j h1
    · have := hb.size; omega
  have hbq := hk2.below hb hbw hv
  clear hb hN hv hk2 hr2
  have hb := hbq
  have hN := hN2
  have hv := hv2
  clear hbq hN2 hv2
  clear hA
  rw [sent_yes, List.nil_append] at hN
  go_wp2_with fail
  refine (where_any 101 _).mono ?_
  rintro en w2 ⟨u, rfl, hA, b2⟩
  have hNq := hN.below b2
  clear hN
  have hN := hNq
  clear hNq
  have hbq := below_step hb b2
  clear hb
  have hb := hbq
  clear hbq b2
  go_wp2_with fail
  refine (nsend_any (by exact hN) (by decide) (by exact hA) g1.ok (by decide) (by decide) (sendN_some g1 (by decide))).mono ?_
  rintro en wz ⟨rfl, v2, hN2, hk2, hr2⟩
  have hv2 : ∀ j, v2.ownBlock = some j → w.heap.size ≤ j := fun j hj => by
    rcases hr2 j hj with h1 | h1
    · exact hv j h1
    · have := hb.size; omega
  have hbq := hk2.below hb hbw hv
  clear hb hN hv hk2 hr2
  have hb := hbq
  have hN := hN2
  have hv := hv2
  clear hbq hN2 hv2
  clear hA
  rw [sent_yes, List.singleton_append] at hN
  go_wp2_with fail
  refine (nsend_any (x := 1) (by exact hN) (by decide) (by exact At.lit msgZero rfl rfl _) msgZero_ok (by decide) (by decide) (by rw [sendN, zero_print]; rfl)).mono ?_
  rintro en wz ⟨rfl, v2, hN2, hk2, hr2⟩
  have hv2 : ∀ j, v2.ownBlock = some j → w.heap.size ≤ j := fun j hj => by
    rcases hr2 j hj with h1 | h1
    · exact hv j h1
    · have := hb.size; omega
  have hbq := hk2.below hb hbw hv
  clear hb hN hv hk2 hr2
  have hb := hbq
  have hN := hN2
  have hv := hv2
  clear hbq hN2 hv2
  rw [sent_not (by decide)] at hN
  have hp5 : ([whereM 100, whereM 101] : List MsgV)[placeN 5 2]? = some (whereM 101) := rfl
  have hp0 : ([whereM 100] : List MsgV)[placeN 0 1]? = some (whereM 100) := rfl
  go_wp2_with fail
  refine (ntake_any (by exact hN) (by simp) (by decide) (by decide) (W64.mk (by decide) (by decide)) hp5).mono ?_
  rintro en w4 ⟨u5, v4, rfl, hF5, hN4, hk4, hq4⟩
  obtain ⟨es5, rfl, hl5, ho5, hF5⟩ := From.parts hF5 rfl
  have e5 : takeN_ [whereM 100, whereM 101] 5 = [whereM 100] := rfl
  rw [e5] at hN4
  have hb4 := hk4.below hb hbw hv
  have hbs := hN.lt
  have hvs : ∀ j, v2.ownBlock = some j → j < wz.heap.size := fun j hj => (hN.row j hj).2
  have hs4 := hk4.size
  generalize hH5 : wz.heap.size = H5 at hF5 hbs hvs hs4
  clear hN hk4 hH5 hb
  have hX := BlkAt.new w4 40 [.int .i64 0, .int .i64 0, .int .i64 0, .int .i64 0, .int .i64 0, .int .i64 0, .int .i64 0, .int .i64 0, .int .i64 0, .int .i64 0, .bool false, .int .i64 0, .int .i64 0, .int .i64 0, .int .i64 0, .int .i64 0, .int .i64 0, .int .i64 0, .int .i64 0, .int .i64 0, .string ⟨#[]⟩, .int .i64 0, .int .i64 0, .int .i64 0, .int .i64 0, .slice none 0 0, .slice none 0 0, .int .i64 0]
  have HL1 := Lib.hid (show es5.length = ([.int .i64 0, .int .i64 0, .int .i64 0, .int .i64 0, .int .i64 0, .int .i64 0, .int .i64 0, .int .i64 0, .int .i64 0, .int .i64 0, .bool false, .int .i64 0, .int .i64 0, .int .i64 0, .int .i64 0, .int .i64 0, .int .i64 0, .int .i64 0, .int .i64 0, .int .i64 0, .string ⟨#[]⟩, .int .i64 0, .int .i64 0, .int .i64 0, .int .i64 0, .slice none 0 0, .slice none 0 0, .int .i64 0] : List Value).length by rw [hl5]; rfl)
  have b4 := (Below.refl w4.heap.size w4).alloc (Nat.le_refl _) (.cells #[.int .i64 0, .int .i64 0, .int .i64 0, .int .i64 0, .int .i64 0, .int .i64 0, .int .i64 0, .int .i64 0, .int .i64 0, .int .i64 0, .bool false, .int .i64 0, .int .i64 0, .int .i64 0, .int .i64 0, .int .i64 0, .int .i64 0, .int .i64 0, .int .i64 0, .int .i64 0, .string ⟨#[]⟩, .int .i64 0, .int .i64 0, .int .i64 0, .int .i64 0, .slice none 0 0, .slice none 0 0, .int .i64 0] 40)
  have G4 := grown_setCells w4.heap.size es5 0 (w4.alloc (.cells #[.int .i64 0, .int .i64 0, .int .i64 0, .int .i64 0, .int .i64 0, .int .i64 0, .int .i64 0, .int .i64 0, .int .i64 0, .int .i64 0, .bool false, .int .i64 0, .int .i64 0, .int .i64 0, .int .i64 0, .int .i64 0, .int .i64 0, .int .i64 0, .int .i64 0, .int .i64 0, .string ⟨#[]⟩, .int .i64 0, .int .i64 0, .int .i64 0, .int .i64 0, .slice none 0 0, .slice none 0 0, .int .i64 0] 40))
  have b5 := b4.grown G4 b4.size (by intro j hj; cases hj; exact Nat.le_refl _)
  have hX5n := hX.stored (vs := es5) HL1.out
  have HT := Lib.hid (blk_there2 hX HL1.out)
  have hN4n := hN4.below b5
  clear hN4
  have hN4 := hN4n
  clear hN4n
  have hF5n := hF5.below b5
  clear hF5
  have hF5 := hF5n
  clear hF5n
  have hb4n := below_step hb4 b5
  clear hb4
  have hb4 := hb4n
  clear hb4n
  clear hX b4 G4 b5 HL1
  go_upto_region 6 with (first | (refine wpList_store_mid rfl 40 (.tmp 5) (.tmp 28) rfl w4.heap.size 0 es5.toArray rfl rfl (by exact HT.out) (by rw [List.size_toArray, hl5]; exact msg_info) ho5 ?_; rw [List.toList_toArray]))
  change Code.wp _ _ _ _ ((w4.alloc (.cells #[.int .i64 0, .int .i64 0, .int .i64 0, .int .i64 0, .int .i64 0, .int .i64 0, .int .i64 0, .int .i64 0, .int .i64 0, .int .i64 0, .bool false, .int .i64 0, .int .i64 0, .int .i64 0, .int .i64 0, .int .i64 0, .int .i64 0, .int .i64 0, .int .i64 0, .int .i64 0, .string ⟨#[]⟩, .int .i64 0, .int .i64 0, .int .i64 0, .int .i64 0, .slice none 0 0, .slice none 0 0, .int .i64 0] 40)).setCells w4.heap.size 0 es5)
  generalize (w4.alloc (.cells #[.int .i64 0, .int .i64 0, .int .i64 0, .int .i64 0, .int .i64 0, .int .i64 0, .int .i64 0, .int .i64 0, .int .i64 0, .int .i64 0, .bool false, .int .i64 0, .int .i64 0, .int .i64 0, .int .i64 0, .int .i64 0, .int .i64 0, .int .i64 0, .int .i64 0, .int .i64 0, .string ⟨#[]⟩, .int .i64 0, .int .i64 0, .int .i64 0, .int .i64 0, .slice none 0 0, .slice none 0 0, .int .i64 0] 40)).setCells w4.heap.size 0 es5 = W4 at *
  have hX5 := hX5n
  clear hX5n HT
  obtain ⟨x5, hLL⟩ : ∃ q, q = w4.heap.size := ⟨_, rfl⟩
  rw [← hLL] at hX5 ⊢
  have HEx5 := Lib.hid hLL
  clear hLL
  have hx5b : x5 ≠ b := by rw [HEx5.out]; omega
  have hx5v : some x5 ≠ v4.ownBlock := fun e => by
    rw [hq4] at e
    have := hvs _ e.symm
    rw [HEx5.out] at this
    omega
  go_wp2_with fail
  refine (ntake_any (by exact hN4) (by simp) (by decide) (by decide) (W64.mk (by decide) (by decide)) hp0).mono ?_
  rintro en w5 ⟨u7, v5, rfl, hF7, hN5, hk5, hq5⟩
  obtain ⟨es7, rfl, hl7, ho7, hF7⟩ := From.parts hF7 rfl
  have e7 : takeN_ [whereM 100] 0 = [] := rfl
  rw [e7] at hN5
  have hX5 := blk_nkept hX5 hk5 hx5b hx5v
  have hF5 := From.nkept hF5 hk5 hbs (fun j hj => hvs j (by rw [← hq4]; exact hj))
  have hb5 := hk5.below hb4 hbw (fun j hj => hv j (by rw [← hq4]; exact hj))
  clear hN4 hk5 hb4
  have hX := BlkAt.new w5 40 [.int .i64 0, .int .i64 0, .int .i64 0, .int .i64 0, .int .i64 0, .int .i64 0, .int .i64 0, .int .i64 0, .int .i64 0, .int .i64 0, .bool false, .int .i64 0, .int .i64 0, .int .i64 0, .int .i64 0, .int .i64 0, .int .i64 0, .int .i64 0, .int .i64 0, .int .i64 0, .string ⟨#[]⟩, .int .i64 0, .int .i64 0, .int .i64 0, .int .i64 0, .slice none 0 0, .slice none 0 0, .int .i64 0]
  have HL1 := Lib.hid (show es7.length = ([.int .i64 0, .int .i64 0, .int .i64 0, .int .i64 0, .int .i64 0, .int .i64 0, .int .i64 0, .int .i64 0, .int .i64 0, .int .i64 0, .bool false, .int .i64 0, .int .i64 0, .int .i64 0, .int .i64 0, .int .i64 0, .int .i64 0, .int .i64 0, .int .i64 0, .int .i64 0, .string ⟨#[]⟩, .int .i64 0, .int .i64 0, .int .i64 0, .int .i64 0, .slice none 0 0, .slice none 0 0, .int .i64 0] : List Value).length by rw [hl7]; rfl)
  have b4 := (Below.refl w5.heap.size w5).alloc (Nat.le_refl _) (.cells #[.int .i64 0, .int .i64 0, .int .i64 0, .int .i64 0, .int .i64 0, .int .i64 0, .int .i64 0, .int .i64 0, .int .i64 0, .int .i64 0, .bool false, .int .i64 0, .int .i64 0, .int .i64 0, .int .i64 0, .int .i64 0, .int .i64 0, .int .i64 0, .int .i64 0, .int .i64 0, .string ⟨#[]⟩, .int .i64 0, .int .i64 0, .int .i64 0, .int .i64 0, .slice none 0 0, .slice none 0 0, .int .i64 0] 40)
  have G4 := grown_setCells w5.heap.size es7 0 (w5.alloc (.cells #[.int .i64 0, .int .i64 0, .int .i64 0, .int .i64 0, .int .i64 0, .int .i64 0, .int .i64 0, .int .i64 0, .int .i64 0, .int .i64 0, .bool false, .int .i64 0, .int .i64 0, .int .i64 0, .int .i64 0, .int .i64 0, .int .i64 0, .int .i64 0, .int .i64 0, .int .i64 0, .string ⟨#[]⟩, .int .i64 0, .int .i64 0, .int .i64 0, .int .i64 0, .slice none 0 0, .slice none 0 0, .int .i64 0] 40))
  have b5 := b4.grown G4 b4.size (by intro j hj; cases hj; exact Nat.le_refl _)
  have hX7n := hX.stored (vs := es7) HL1.out
  have HT := Lib.hid (blk_there2 hX HL1.out)
  have hN5n := hN5.below b5
  clear hN5
  have hN5 := hN5n
  clear hN5n
  have hF5n := hF5.below b5
  clear hF5
  have hF5 := hF5n
  clear hF5n
  have hX5n := hX5.below b5
  clear hX5
  have hX5 := hX5n
  clear hX5n
  have hF7n := hF7.below b5
  clear hF7
  have hF7 := hF7n
  clear hF7n
  have hb5n := below_step hb5 b5
  clear hb5
  have hb5 := hb5n
  clear hb5n
  clear hX b4 G4 b5 HL1
  go_upto_region 7 with (first | (refine wpList_store_mid rfl 40 (.tmp 7) (.tmp 33) rfl w5.heap.size 0 es7.toArray rfl rfl (by exact HT.out) (by rw [List.size_toArray, hl7]; exact msg_info) ho7 ?_; rw [List.toList_toArray]))
  change Code.wp _ _ _ _ ((w5.alloc (.cells #[.int .i64 0, .int .i64 0, .int .i64 0, .int .i64 0, .int .i64 0, .int .i64 0, .int .i64 0, .int .i64 0, .int .i64 0, .int .i64 0, .bool false, .int .i64 0, .int .i64 0, .int .i64 0, .int .i64 0, .int .i64 0, .int .i64 0, .int .i64 0, .int .i64 0, .int .i64 0, .string ⟨#[]⟩, .int .i64 0, .int .i64 0, .int .i64 0, .int .i64 0, .slice none 0 0, .slice none 0 0, .int .i64 0] 40)).setCells w5.heap.size 0 es7)
  generalize (w5.alloc (.cells #[.int .i64 0, .int .i64 0, .int .i64 0, .int .i64 0, .int .i64 0, .int .i64 0, .int .i64 0, .int .i64 0, .int .i64 0, .int .i64 0, .bool false, .int .i64 0, .int .i64 0, .int .i64 0, .int .i64 0, .int .i64 0, .int .i64 0, .int .i64 0, .int .i64 0, .int .i64 0, .string ⟨#[]⟩, .int .i64 0, .int .i64 0, .int .i64 0, .int .i64 0, .slice none 0 0, .slice none 0 0, .int .i64 0] 40)).setCells w5.heap.size 0 es7 = W5 at *
  have hX7 := hX7n
  clear hX7n HT
  obtain ⟨x7, hLL⟩ : ∃ q, q = w5.heap.size := ⟨_, rfl⟩
  rw [← hLL] at hX7 ⊢
  have HEx7 := Lib.hid hLL
  clear hLL
  go_wp2_with fail
  refine (ntake_none (by exact hN5) 0).mono ?_
  rintro en w6 ⟨u9, rfl, hF9, b6⟩
  obtain ⟨es9, rfl, hl9, ho9, hF9⟩ := From.parts hF9 rfl
  have hb := hb5
  clear hb5 hF9
  have hN5q := hN5.below b6
  clear hN5
  have hN5 := hN5q
  clear hN5q
  have hF5q := hF5.below b6
  clear hF5
  have hF5 := hF5q
  clear hF5q
  have hX5q := hX5.below b6
  clear hX5
  have hX5 := hX5q
  clear hX5q
  have hF7q := hF7.below b6
  clear hF7
  have hF7 := hF7q
  clear hF7q
  have hX7q := hX7.below b6
  clear hX7
  have hX7 := hX7q
  clear hX7q
  have hbq := below_step hb b6
  clear hb
  have hb := hbq
  clear hbq b6
  have hX := BlkAt.new w6 40 [.int .i64 0, .int .i64 0, .int .i64 0, .int .i64 0, .int .i64 0, .int .i64 0, .int .i64 0, .int .i64 0, .int .i64 0, .int .i64 0, .bool false, .int .i64 0, .int .i64 0, .int .i64 0, .int .i64 0, .int .i64 0, .int .i64 0, .int .i64 0, .int .i64 0, .int .i64 0, .string ⟨#[]⟩, .int .i64 0, .int .i64 0, .int .i64 0, .int .i64 0, .slice none 0 0, .slice none 0 0, .int .i64 0]
  have HL1 := Lib.hid (show es9.length = ([.int .i64 0, .int .i64 0, .int .i64 0, .int .i64 0, .int .i64 0, .int .i64 0, .int .i64 0, .int .i64 0, .int .i64 0, .int .i64 0, .bool false, .int .i64 0, .int .i64 0, .int .i64 0, .int .i64 0, .int .i64 0, .int .i64 0, .int .i64 0, .int .i64 0, .int .i64 0, .string ⟨#[]⟩, .int .i64 0, .int .i64 0, .int .i64 0, .int .i64 0, .slice none 0 0, .slice none 0 0, .int .i64 0] : List Value).length by rw [hl9]; rfl)
  have b4 := (Below.refl w6.heap.size w6).alloc (Nat.le_refl _) (.cells #[.int .i64 0, .int .i64 0, .int .i64 0, .int .i64 0, .int .i64 0, .int .i64 0, .int .i64 0, .int .i64 0, .int .i64 0, .int .i64 0, .bool false, .int .i64 0, .int .i64 0, .int .i64 0, .int .i64 0, .int .i64 0, .int .i64 0, .int .i64 0, .int .i64 0, .int .i64 0, .string ⟨#[]⟩, .int .i64 0, .int .i64 0, .int .i64 0, .int .i64 0, .slice none 0 0, .slice none 0 0, .int .i64 0] 40)
  have G4 := grown_setCells w6.heap.size es9 0 (w6.alloc (.cells #[.int .i64 0, .int .i64 0, .int .i64 0, .int .i64 0, .int .i64 0, .int .i64 0, .int .i64 0, .int .i64 0, .int .i64 0, .int .i64 0, .bool false, .int .i64 0, .int .i64 0, .int .i64 0, .int .i64 0, .int .i64 0, .int .i64 0, .int .i64 0, .int .i64 0, .int .i64 0, .string ⟨#[]⟩, .int .i64 0, .int .i64 0, .int .i64 0, .int .i64 0, .slice none 0 0, .slice none 0 0, .int .i64 0] 40))
  have b5 := b4.grown G4 b4.size (by intro j hj; cases hj; exact Nat.le_refl _)
  have hX9n := hX.stored (vs := es9) HL1.out
  have HT := Lib.hid (blk_there2 hX HL1.out)
  have hN5n := hN5.below b5
  clear hN5
  have hN5 := hN5n
  clear hN5n
  have hF5n := hF5.below b5
  clear hF5
  have hF5 := hF5n
  clear hF5n
  have hX5n := hX5.below b5
  clear hX5
  have hX5 := hX5n
  clear hX5n
  have hF7n := hF7.below b5
  clear hF7
  have hF7 := hF7n
  clear hF7n
  have hX7n := hX7.below b5
  clear hX7
  have hX7 := hX7n
  clear hX7n
  have hbn := below_step hb b5
  clear hb
  have hb := hbn
  clear hbn
  clear hX b4 G4 b5 HL1
  go_upto_region 8 with (first | (refine wpList_store_mid rfl 40 (.tmp 9) (.tmp 38) rfl w6.heap.size 0 es9.toArray rfl rfl (by exact HT.out) (by rw [List.size_toArray, hl9]; exact msg_info) ho9 ?_; rw [List.toList_toArray]))
  change Code.wp _ _ _ _ ((w6.alloc (.cells #[.int .i64 0, .int .i64 0, .int .i64 0, .int .i64 0, .int .i64 0, .int .i64 0, .int .i64 0, .int .i64 0, .int .i64 0, .int .i64 0, .bool false, .int .i64 0, .int .i64 0, .int .i64 0, .int .i64 0, .int .i64 0, .int .i64 0, .int .i64 0, .int .i64 0, .int .i64 0, .string ⟨#[]⟩, .int .i64 0, .int .i64 0, .int .i64 0, .int .i64 0, .slice none 0 0, .slice none 0 0, .int .i64 0] 40)).setCells w6.heap.size 0 es9)
  generalize (w6.alloc (.cells #[.int .i64 0, .int .i64 0, .int .i64 0, .int .i64 0, .int .i64 0, .int .i64 0, .int .i64 0, .int .i64 0, .int .i64 0, .int .i64 0, .bool false, .int .i64 0, .int .i64 0, .int .i64 0, .int .i64 0, .int .i64 0, .int .i64 0, .int .i64 0, .int .i64 0, .int .i64 0, .string ⟨#[]⟩, .int .i64 0, .int .i64 0, .int .i64 0, .int .i64 0, .slice none 0 0, .slice none 0 0, .int .i64 0] 40)).setCells w6.heap.size 0 es9 = W6 at *
  have hX9 := hX9n
  clear hX9n HT
  obtain ⟨x9, hLL⟩ : ∃ q, q = w6.heap.size := ⟨_, rfl⟩
  rw [← hLL] at hX9 ⊢
  have HEx9 := Lib.hid hLL
  clear hLL
  clear hX9
  go_wp2_with fail
  refine (ncounts_any (by exact hN5)).mono ?_
  rintro en w7 ⟨rfl, n, rfl⟩
  have bd : Below W6.heap.size W6 (W6.drewN n) := below_drewN (Below.refl _ _) n
  have hN5q := hN5.below bd
  clear hN5
  have hN5 := hN5q
  clear hN5q
  have hF5q := hF5.below bd
  clear hF5
  have hF5 := hF5q
  clear hF5q
  have hX5q := hX5.below bd
  clear hX5
  have hX5 := hX5q
  clear hX5q
  have hF7q := hF7.below bd
  clear hF7
  have hF7 := hF7q
  clear hF7q
  have hX7q := hX7.below bd
  clear hX7
  have hX7 := hX7q
  clear hX7q
  have hbq := below_step hb bd
  clear hb
  have hb := hbq
  clear hbq bd
  generalize W6.drewN n = W7 at *
  go_upto_region 9 with (fail)
  have bd : Below W7.heap.size W7 W7.drew := below_drewN (Below.refl _ _) 1
  have hN5q := hN5.below bd
  clear hN5
  have hN5 := hN5q
  clear hN5q
  have hF5q := hF5.below bd
  clear hF5
  have hF5 := hF5q
  clear hF5q
  have hX5q := hX5.below bd
  clear hX5
  have hX5 := hX5q
  clear hX5q
  have hF7q := hF7.below bd
  clear hF7
  have hF7 := hF7q
  clear hF7q
  have hX7q := hX7.below bd
  clear hX7
  have hX7 := hX7q
  clear hX7q
  have hbq := below_step hb bd
  clear hb
  have hb := hbq
  clear hbq bd
  refine wp_region_noPanic ?_
  refine wp_region_held_drew (S := (fun w' => BlkAt w' x5 40 es5 ∧ BlkAt w' x7 40 es7)) (by kernel_rfl) (by exact ⟨hX5, hX7⟩) (fun hHeld => ?_)
  refine wpAnyH_take (i := 0) (oi := ?oq_1_0) (v := ?va_1_0) ?op_1_0 (by kernel_rfl) (by kernel_rfl) (by kernel_rfl) (fun _ _ _ h => h) ?yi_1_0 hHeld ?re_1_0
  case op_1_0 => (simp only [List.getElem?_toArray, List.getElem?_cons_zero]; rfl)
  case yi_1_0 =>
    refine Or.inl ⟨by rfl, ?_⟩
    intro w hSw
    try dsimp only at hSw
    go_simp
    all_goals with_reducible rfl
  try simp only [Act.put, List.setIfInBounds_toArray, List.set_cons_zero, List.set_cons_succ]
  refine wpAnyH_take (i := 1) (oi := ?oq_1_1) (v := ?va_1_1) ?op_1_1 (by kernel_rfl) (by kernel_rfl) (by kernel_rfl) (fun _ _ _ h => h) ?yi_1_1 hHeld ?re_1_1
  case op_1_1 => (simp only [List.getElem?_toArray, List.getElem?_cons_succ, List.getElem?_cons_zero]; rfl)
  case yi_1_1 =>
    refine Or.inl ⟨by rfl, ?_⟩
    intro w hSw
    try dsimp only at hSw
    go_simp
    all_goals with_reducible rfl
  try simp only [Act.put, List.setIfInBounds_toArray, List.set_cons_zero, List.set_cons_succ]
  refine wpAnyH_take (i := 2) (oi := ?oq_1_2) (v := ?va_1_2) ?op_1_2 (by kernel_rfl) (by kernel_rfl) (by kernel_rfl) (fun _ _ _ h => h) ?yi_1_2 hHeld ?re_1_2
  case op_1_2 => (simp only [List.getElem?_toArray, List.getElem?_cons_succ, List.getElem?_cons_zero]; rfl)
  case yi_1_2 =>
    refine Or.inl ⟨by rfl, ?_⟩
    intro w hSw
    try dsimp only at hSw
    go_simp
    all_goals with_reducible rfl
  try simp only [Act.put, List.setIfInBounds_toArray, List.set_cons_zero, List.set_cons_succ]
  refine wpAnyH_take (i := 3) (oi := ?oq_1_3) (v := ?va_1_3) ?op_1_3 (by kernel_rfl) (by kernel_rfl) (by kernel_rfl) (fun _ _ _ h => h) ?yi_1_3 hHeld ?re_1_3
  case op_1_3 => (simp only [List.getElem?_toArray, List.getElem?_cons_succ, List.getElem?_cons_zero]; rfl)
  case yi_1_3 =>
    refine Or.inl ⟨by rfl, ?_⟩
    intro w hSw
    try dsimp only at hSw
    go_simp
    all_goals with_reducible rfl
  try simp only [Act.put, List.setIfInBounds_toArray, List.set_cons_zero, List.set_cons_succ]
  refine wpAnyH_take (i := 4) (oi := ?oq_1_4) (v := ?va_1_4) ?op_1_4 (by kernel_rfl) (by kernel_rfl) (by kernel_rfl) (fun _ _ _ h => h) ?yi_1_4 hHeld ?re_1_4
  case op_1_4 => (simp only [List.getElem?_toArray, List.getElem?_cons_succ, List.getElem?_cons_zero]; rfl)
  case yi_1_4 =>
    refine Or.inl ⟨by rfl, ?_⟩
    intro w hSw
    try dsimp only at hSw
    go_simp
    all_goals with_reducible rfl
  try simp only [Act.put, List.setIfInBounds_toArray, List.set_cons_zero, List.set_cons_succ]
  refine wpAnyH_take (i := 5) (oi := ?oq_1_5) (v := ?va_1_5) ?op_1_5 (by kernel_rfl) (by kernel_rfl) (by kernel_rfl) (fun _ _ _ h => h) ?yi_1_5 hHeld ?re_1_5
  case op_1_5 => (simp only [List.getElem?_toArray, List.getElem?_cons_succ, List.getElem?_cons_zero]; rfl)
  case yi_1_5 =>
    refine Or.inl ⟨by rfl, ?_⟩
    intro w hSw
    try dsimp only at hSw
    go_simp
    all_goals with_reducible rfl
  try simp only [Act.put, List.setIfInBounds_toArray, List.set_cons_zero, List.set_cons_succ]
  refine wpAnyH_take (i := 6) (oi := ?oq_1_6) (v := ?va_1_6) ?op_1_6 (by kernel_rfl) (by kernel_rfl) (by kernel_rfl) (fun _ _ _ h => h) ?yi_1_6 hHeld ?re_1_6
  case op_1_6 => (simp only [List.getElem?_toArray, List.getElem?_cons_succ, List.getElem?_cons_zero]; rfl)
  case yi_1_6 =>
    refine Or.inl ⟨by rfl, ?_⟩
    intro w hSw
    try dsimp only at hSw
    go_simp
    all_goals with_reducible rfl
  try simp only [Act.put, List.setIfInBounds_toArray, List.set_cons_zero, List.set_cons_succ]
  refine wpAnyH_take (i := 7) (oi := ?oq_1_7) (v := ?va_1_7) ?op_1_7 (by kernel_rfl) (by kernel_rfl) (by kernel_rfl) (fun _ _ _ h => h) ?yi_1_7 hHeld ?re_1_7
  case op_1_7 => (simp only [List.getElem?_toArray, List.getElem?_cons_succ, List.getElem?_cons_zero]; rfl)
  case yi_1_7 =>
    refine Or.inl ⟨by rfl, ?_⟩
    intro w hSw
    try dsimp only at hSw
    go_simp
    all_goals with_reducible rfl
  try simp only [Act.put, List.setIfInBounds_toArray, List.set_cons_zero, List.set_cons_succ]
  refine wpAnyH_take (i := 8) (oi := ?oq_1_8) (v := ?va_1_8) ?op_1_8 (by kernel_rfl) (by kernel_rfl) (by kernel_rfl) (fun _ _ _ h => h) ?yi_1_8 hHeld ?re_1_8
  case op_1_8 => (simp only [List.getElem?_toArray, List.getElem?_cons_succ, List.getElem?_cons_zero]; rfl)
  case yi_1_8 =>
    refine Or.inl ⟨by rfl, ?_⟩
    intro w hSw
    try dsimp only at hSw
    go_simp
    all_goals with_reducible rfl
  try simp only [Act.put, List.setIfInBounds_toArray, List.set_cons_zero, List.set_cons_succ]
  refine wpAnyH_take (i := 9) (oi := ?oq_1_9) (v := ?va_1_9) ?op_1_9 (by kernel_rfl) (by kernel_rfl) (by kernel_rfl) (fun _ _ _ h => h) ?yi_1_9 hHeld ?re_1_9
  case op_1_9 => (simp only [List.getElem?_toArray, List.getElem?_cons_succ, List.getElem?_cons_zero]; rfl)
  case yi_1_9 =>
    refine Or.inl ⟨by rfl, ?_⟩
    intro w hSw
    try dsimp only at hSw
    go_simp
    all_goals with_reducible rfl
  try simp only [Act.put, List.setIfInBounds_toArray, List.set_cons_zero, List.set_cons_succ]
  refine wpAnyH_take (i := 10) (oi := ?oq_1_10) (v := ?va_1_10) ?op_1_10 (by kernel_rfl) (by kernel_rfl) (by kernel_rfl) (fun _ _ _ h => h) ?yi_1_10 hHeld ?re_1_10
  case op_1_10 => (simp only [List.getElem?_toArray, List.getElem?_cons_succ, List.getElem?_cons_zero]; rfl)
  case yi_1_10 =>
    refine Or.inl ⟨by rfl, ?_⟩
    intro w hSw
    try dsimp only at hSw
    go_simp
    all_goals with_reducible rfl
  try simp only [Act.put, List.setIfInBounds_toArray, List.set_cons_zero, List.set_cons_succ]
  refine wpAnyH_take (i := 11) (oi := ?oq_1_11) (v := ?va_1_11) ?op_1_11 (by kernel_rfl) (by kernel_rfl) (by kernel_rfl) (fun _ _ _ h => h) ?yi_1_11 hHeld ?re_1_11
  case op_1_11 => (simp only [List.getElem?_toArray, List.getElem?_cons_succ, List.getElem?_cons_zero]; rfl)
  case yi_1_11 => exact (by
    refine yieldsIf_load_mid ?_ 40 (.tmp 5) ?_ x5 0 ?_ es5 _ ?_ Tryz.underlying40 ?_ (by rw [hl5]; exact msg_info)
    · rfl
    · rfl
    · rfl
    · intro w h
      have h : _ ∧ _ := h
      exact BlkAt.range h.1
    · rfl)
  try simp only [Act.put, List.setIfInBounds_toArray, List.set_cons_zero, List.set_cons_succ]
  refine wpAnyH_ready (rs := [12]) (by kernel_rfl) (by simp) (AllReadyH.cons (o := ?oq_1_12) ?op_1_12 (fun K hK => ?re_1_12) AllReadyH.nil)
  case op_1_12 => (simp only [List.getElem?_toArray, List.getElem?_cons_succ, List.getElem?_cons_zero]; rfl)
  go_simp
  go_at_call 17
  refine (where_any 101 _).mono ?_
  rintro en z1 ⟨u1, rfl, hU1, b9⟩
  have hN5q := hN5.below b9
  clear hN5
  have hN5 := hN5q
  clear hN5q
  have hF5q := hF5.below b9
  clear hF5
  have hF5 := hF5q
  clear hF5q
  have hX5q := hX5.below b9
  clear hX5
  have hX5 := hX5q
  clear hX5q
  have hF7q := hF7.below b9
  clear hF7
  have hF7 := hF7q
  clear hF7q
  have hX7q := hX7.below b9
  clear hX7
  have hX7 := hX7q
  clear hX7q
  have hbq := below_step hb b9
  clear hb
  have hb := hbq
  clear hbq b9
  refine hK.out _ _ (by exact ⟨hX5, hX7⟩) (fun hHeld => ?_)
  clear hK K
  try simp only [Act.put, List.setIfInBounds_toArray, List.set_cons_zero, List.set_cons_succ]
  refine wpAnyH_ready (rs := [13]) (by kernel_rfl) (by simp) (AllReadyH.cons (o := ?oq_1_13) ?op_1_13 (fun K hK => ?re_1_13) AllReadyH.nil)
  case op_1_13 => (simp only [List.getElem?_toArray, List.getElem?_cons_succ, List.getElem?_cons_zero]; rfl)
  go_simp
  go_at_call 14
  refine (qwsame_any (by exact hF5.at) (by exact hU1) rfl rfl).mono ?_
  rintro en z2 ⟨rfl, b9⟩
  rw [decide_eq_true (rfl : whereM 101 = whereM 101)]
  have hN5q := hN5.below b9
  clear hN5
  have hN5 := hN5q
  clear hN5q
  have hF5q := hF5.below b9
  clear hF5
  have hF5 := hF5q
  clear hF5q
  have hX5q := hX5.below b9
  clear hX5
  have hX5 := hX5q
  clear hX5q
  have hF7q := hF7.below b9
  clear hF7
  have hF7 := hF7q
  clear hF7q
  have hX7q := hX7.below b9
  clear hX7
  have hX7 := hX7q
  clear hX7q
  have hbq := below_step hb b9
  clear hb
  have hb := hbq
  clear hbq b9
  refine hK.out _ _ (by exact ⟨hX5, hX7⟩) (fun hHeld => ?_)
  clear hK K
  try simp only [Act.put, List.setIfInBounds_toArray, List.set_cons_zero, List.set_cons_succ]
  refine wpAnyH_take (i := 14) (oi := ?oq_1_14) (v := ?va_1_14) ?op_1_14 (by kernel_rfl) (by kernel_rfl) (by kernel_rfl) (fun _ _ _ h => h) ?yi_1_14 hHeld ?re_1_14
  case op_1_14 => (simp only [List.getElem?_toArray, List.getElem?_cons_succ, List.getElem?_cons_zero]; rfl)
  case yi_1_14 =>
    refine Or.inl ⟨by rfl, ?_⟩
    intro w hSw
    try dsimp only at hSw
    go_simp
    all_goals with_reducible rfl
  try simp only [Act.put, List.setIfInBounds_toArray, List.set_cons_zero, List.set_cons_succ]
  refine wpAnyH_take (i := 15) (oi := ?oq_1_15) (v := ?va_1_15) ?op_1_15 (by kernel_rfl) (by kernel_rfl) (by kernel_rfl) (fun _ _ _ h => h) ?yi_1_15 hHeld ?re_1_15
  case op_1_15 => (simp only [List.getElem?_toArray, List.getElem?_cons_succ, List.getElem?_cons_zero]; rfl)
  case yi_1_15 =>
    refine Or.inl ⟨by rfl, ?_⟩
    intro w hSw
    try dsimp only at hSw
    go_simp
    all_goals with_reducible rfl
  try simp only [Act.put, List.setIfInBounds_toArray, List.set_cons_zero, List.set_cons_succ]
  refine wpAnyH_take (i := 16) (oi := ?oq_1_16) (v := ?va_1_16) ?op_1_16 (by kernel_rfl) (by kernel_rfl) (by kernel_rfl) (fun _ _ _ h => h) ?yi_1_16 hHeld ?re_1_16
  case op_1_16 => (simp only [List.getElem?_toArray, List.getElem?_cons_succ, List.getElem?_cons_zero]; rfl)
  case yi_1_16 =>
    refine Or.inl ⟨by rfl, ?_⟩
    intro w hSw
    try dsimp only at hSw
    go_simp
    all_goals with_reducible rfl
  try simp only [Act.put, List.setIfInBounds_toArray, List.set_cons_zero, List.set_cons_succ]
  refine wpAnyH_take (i := 17) (oi := ?oq_1_17) (v := ?va_1_17) ?op_1_17 (by kernel_rfl) (by kernel_rfl) (by kernel_rfl) (fun _ _ _ h => h) ?yi_1_17 hHeld ?re_1_17
  case op_1_17 => (simp only [List.getElem?_toArray, List.getElem?_cons_succ, List.getElem?_cons_zero]; rfl)
  case yi_1_17 =>
    refine Or.inl ⟨by rfl, ?_⟩
    intro w hSw
    try dsimp only at hSw
    go_simp
    all_goals with_reducible rfl
  try simp only [Act.put, List.setIfInBounds_toArray, List.set_cons_zero, List.set_cons_succ]
  refine wpAnyH_take (i := 18) (oi := ?oq_1_18) (v := ?va_1_18) ?op_1_18 (by kernel_rfl) (by kernel_rfl) (by kernel_rfl) (fun _ _ _ h => h) ?yi_1_18 hHeld ?re_1_18
  case op_1_18 => (simp only [List.getElem?_toArray, List.getElem?_cons_succ, List.getElem?_cons_zero]; rfl)
  case yi_1_18 =>
    refine Or.inl ⟨by rfl, ?_⟩
    intro w hSw
    try dsimp only at hSw
    go_simp
    all_goals with_reducible rfl
  try simp only [Act.put, List.setIfInBounds_toArray, List.set_cons_zero, List.set_cons_succ]
  refine wpAnyH_take (i := 19) (oi := ?oq_1_19) (v := ?va_1_19) ?op_1_19 (by kernel_rfl) (by kernel_rfl) (by kernel_rfl) (fun _ _ _ h => h) ?yi_1_19 hHeld ?re_1_19
  case op_1_19 => (simp only [List.getElem?_toArray, List.getElem?_cons_succ, List.getElem?_cons_zero]; rfl)
  case yi_1_19 =>
    refine Or.inl ⟨by rfl, ?_⟩
    intro w hSw
    try dsimp only at hSw
    go_simp
    all_goals with_reducible rfl
  try simp only [Act.put, List.setIfInBounds_toArray, List.set_cons_zero, List.set_cons_succ]
  refine wpAnyH_take (i := 20) (oi := ?oq_1_20) (v := ?va_1_20) ?op_1_20 (by kernel_rfl) (by kernel_rfl) (by kernel_rfl) (fun _ _ _ h => h) ?yi_1_20 hHeld ?re_1_20
  case op_1_20 => (simp only [List.getElem?_toArray, List.getElem?_cons_succ, List.getElem?_cons_zero]; rfl)
  case yi_1_20 => exact (by
    refine yieldsIf_load_mid ?_ 40 (.tmp 7) ?_ x7 0 ?_ es7 _ ?_ Tryz.underlying40 ?_ (by rw [hl7]; exact msg_info)
    · rfl
    · rfl
    · rfl
    · intro w h
      have h : _ ∧ _ := h
      exact BlkAt.range h.2
    · rfl)
  try simp only [Act.put, List.setIfInBounds_toArray, List.set_cons_zero, List.set_cons_succ]
  refine wpAnyH_ready (rs := [21]) (by kernel_rfl) (by simp) (AllReadyH.cons (o := ?oq_1_21) ?op_1_21 (fun K hK => ?re_1_21) AllReadyH.nil)
  case op_1_21 => (simp only [List.getElem?_toArray, List.getElem?_cons_succ, List.getElem?_cons_zero]; rfl)
  go_simp
  go_at_call 17
  refine (where_any 100 _).mono ?_
  rintro en z3 ⟨u2, rfl, hU2, b9⟩
  have hN5q := hN5.below b9
  clear hN5
  have hN5 := hN5q
  clear hN5q
  have hF5q := hF5.below b9
  clear hF5
  have hF5 := hF5q
  clear hF5q
  have hX5q := hX5.below b9
  clear hX5
  have hX5 := hX5q
  clear hX5q
  have hF7q := hF7.below b9
  clear hF7
  have hF7 := hF7q
  clear hF7q
  have hX7q := hX7.below b9
  clear hX7
  have hX7 := hX7q
  clear hX7q
  have hbq := below_step hb b9
  clear hb
  have hb := hbq
  clear hbq b9
  refine hK.out _ _ (by exact ⟨hX5, hX7⟩) (fun hHeld => ?_)
  clear hK K
  try simp only [Act.put, List.setIfInBounds_toArray, List.set_cons_zero, List.set_cons_succ]
  refine wpAnyH_ready (rs := [22]) (by kernel_rfl) (by simp) (AllReadyH.cons (o := ?oq_1_22) ?op_1_22 (fun K hK => ?re_1_22) AllReadyH.nil)
  case op_1_22 => (simp only [List.getElem?_toArray, List.getElem?_cons_succ, List.getElem?_cons_zero]; rfl)
  go_simp
  go_at_call 14
  refine (qwsame_any (by exact hF7.at) (by exact hU2) rfl rfl).mono ?_
  rintro en z4 ⟨rfl, b9⟩
  rw [decide_eq_true (rfl : whereM 100 = whereM 100)]
  have hN5q := hN5.below b9
  clear hN5
  have hN5 := hN5q
  clear hN5q
  have hF5q := hF5.below b9
  clear hF5
  have hF5 := hF5q
  clear hF5q
  have hX5q := hX5.below b9
  clear hX5
  have hX5 := hX5q
  clear hX5q
  have hF7q := hF7.below b9
  clear hF7
  have hF7 := hF7q
  clear hF7q
  have hX7q := hX7.below b9
  clear hX7
  have hX7 := hX7q
  clear hX7q
  have hbq := below_step hb b9
  clear hb
  have hb := hbq
  clear hbq b9
  refine hK.out _ _ (by exact ⟨hX5, hX7⟩) (fun hHeld => ?_)
  clear hK K
  try simp only [Act.put, List.setIfInBounds_toArray, List.set_cons_zero, List.set_cons_succ]
  refine wpAnyH_take (i := 23) (oi := ?oq_1_23) (v := ?va_1_23) ?op_1_23 (by kernel_rfl) (by kernel_rfl) (by kernel_rfl) (fun _ _ _ h => h) ?yi_1_23 hHeld ?re_1_23
  case op_1_23 => (simp only [List.getElem?_toArray, List.getElem?_cons_succ, List.getElem?_cons_zero]; rfl)
  case yi_1_23 =>
    refine Or.inl ⟨by rfl, ?_⟩
    intro w hSw
    try dsimp only at hSw
    go_simp
    all_goals with_reducible rfl
  try simp only [Act.put, List.setIfInBounds_toArray, List.set_cons_zero, List.set_cons_succ]
  refine wpAnyH_take (i := 24) (oi := ?oq_1_24) (v := ?va_1_24) ?op_1_24 (by kernel_rfl) (by kernel_rfl) (by kernel_rfl) (fun _ _ _ h => h) ?yi_1_24 hHeld ?re_1_24
  case op_1_24 => (simp only [List.getElem?_toArray, List.getElem?_cons_succ, List.getElem?_cons_zero]; rfl)
  case yi_1_24 =>
    refine Or.inl ⟨by rfl, ?_⟩
    intro w hSw
    try dsimp only at hSw
    go_simp
    all_goals with_reducible rfl
  try simp only [Act.put, List.setIfInBounds_toArray, List.set_cons_zero, List.set_cons_succ]
  refine wpAnyH_take (i := 25) (oi := ?oq_1_25) (v := ?va_1_25) ?op_1_25 (by kernel_rfl) (by kernel_rfl) (by kernel_rfl) (fun _ _ _ h => h) ?yi_1_25 hHeld ?re_1_25
  case op_1_25 => (simp only [List.getElem?_toArray, List.getElem?_cons_succ, List.getElem?_cons_zero]; rfl)
  case yi_1_25 =>
    refine Or.inl ⟨by rfl, ?_⟩
    intro w hSw
    try dsimp only at hSw
    go_simp
    all_goals with_reducible rfl
  try simp only [Act.put, List.setIfInBounds_toArray, List.set_cons_zero, List.set_cons_succ]
  refine wpAnyH_take (i := 26) (oi := ?oq_1_26) (v := ?va_1_26) ?op_1_26 (by kernel_rfl) (by kernel_rfl) (by kernel_rfl) (fun _ _ _ h => h) ?yi_1_26 hHeld ?re_1_26
  case op_1_26 => (simp only [List.getElem?_toArray, List.getElem?_cons_succ, List.getElem?_cons_zero]; rfl)
  case yi_1_26 =>
    refine Or.inl ⟨by rfl, ?_⟩
    intro w hSw
    try dsimp only at hSw
    go_simp
    all_goals with_reducible rfl
  try simp only [Act.put, List.setIfInBounds_toArray, List.set_cons_zero, List.set_cons_succ]
  refine wpAnyH_take (i := 27) (oi := ?oq_1_27) (v := ?va_1_27) ?op_1_27 (by kernel_rfl) (by kernel_rfl) (by kernel_rfl) (fun _ _ _ h => h) ?yi_1_27 hHeld ?re_1_27
  case op_1_27 => (simp only [List.getElem?_toArray, List.getElem?_cons_succ, List.getElem?_cons_zero]; rfl)
  case yi_1_27 =>
    refine Or.inl ⟨by rfl, ?_⟩
    intro w hSw
    try dsimp only at hSw
    go_simp
    all_goals with_reducible rfl
  try simp only [Act.put, List.setIfInBounds_toArray, List.set_cons_zero, List.set_cons_succ]
  refine wpAnyH_take (i := 28) (oi := ?oq_1_28) (v := ?va_1_28) ?op_1_28 (by kernel_rfl) (by kernel_rfl) (by kernel_rfl) (fun _ _ _ h => h) ?yi_1_28 hHeld ?re_1_28
  case op_1_28 => (simp only [List.getElem?_toArray, List.getElem?_cons_succ, List.getElem?_cons_zero]; rfl)
  case yi_1_28 =>
    refine Or.inl ⟨by rfl, ?_⟩
    intro w hSw
    try dsimp only at hSw
    go_simp
    all_goals with_reducible rfl
  try simp only [Act.put, List.setIfInBounds_toArray, List.set_cons_zero, List.set_cons_succ]
  refine wpAnyH_take (i := 29) (oi := ?oq_1_29) (v := ?va_1_29) ?op_1_29 (by kernel_rfl) (by kernel_rfl) (by kernel_rfl) (fun _ _ _ h => h) ?yi_1_29 hHeld ?re_1_29
  case op_1_29 => (simp only [List.getElem?_toArray, List.getElem?_cons_succ, List.getElem?_cons_zero]; rfl)
  case yi_1_29 =>
    refine Or.inl ⟨by rfl, ?_⟩
    intro w hSw
    try dsimp only at hSw
    go_simp
    all_goals with_reducible rfl
  try simp only [Act.put, List.setIfInBounds_toArray, List.set_cons_zero, List.set_cons_succ]
  refine wpAnyH_take (i := 30) (oi := ?oq_1_30) (v := ?va_1_30) ?op_1_30 (by kernel_rfl) (by kernel_rfl) (by kernel_rfl) (fun _ _ _ h => h) ?yi_1_30 hHeld ?re_1_30
  case op_1_30 => (simp only [List.getElem?_toArray, List.getElem?_cons_succ, List.getElem?_cons_zero]; rfl)
  case yi_1_30 =>
    refine Or.inl ⟨by rfl, ?_⟩
    intro w hSw
    try dsimp only at hSw
    go_simp
    all_goals with_reducible rfl
  try simp only [Act.put, List.setIfInBounds_toArray, List.set_cons_zero, List.set_cons_succ]
  refine wpAnyH_take (i := 31) (oi := ?oq_1_31) (v := ?va_1_31) ?op_1_31 (by kernel_rfl) (by kernel_rfl) (by kernel_rfl) (fun _ _ _ h => h) ?yi_1_31 hHeld ?re_1_31
  case op_1_31 => (simp only [List.getElem?_toArray, List.getElem?_cons_succ, List.getElem?_cons_zero]; rfl)
  case yi_1_31 =>
    refine Or.inl ⟨by rfl, ?_⟩
    intro w hSw
    try dsimp only at hSw
    go_simp
    all_goals with_reducible rfl
  try simp only [Act.put, List.setIfInBounds_toArray, List.set_cons_zero, List.set_cons_succ]
  refine wpAnyH_take (i := 32) (oi := ?oq_1_32) (v := ?va_1_32) ?op_1_32 (by kernel_rfl) (by kernel_rfl) (by kernel_rfl) (fun _ _ _ h => h) ?yi_1_32 hHeld ?re_1_32
  case op_1_32 => (simp only [List.getElem?_toArray, List.getElem?_cons_succ, List.getElem?_cons_zero]; rfl)
  case yi_1_32 =>
    refine Or.inl ⟨by rfl, ?_⟩
    intro w hSw
    try dsimp only at hSw
    go_simp
    all_goals with_reducible rfl
  try simp only [Act.put, List.setIfInBounds_toArray, List.set_cons_zero, List.set_cons_succ]
  refine wpAnyH_take (i := 33) (oi := ?oq_1_33) (v := ?va_1_33) ?op_1_33 (by kernel_rfl) (by kernel_rfl) (by kernel_rfl) (fun _ _ _ h => h) ?yi_1_33 hHeld ?re_1_33
  case op_1_33 => (simp only [List.getElem?_toArray, List.getElem?_cons_succ, List.getElem?_cons_zero]; rfl)
  case yi_1_33 =>
    refine Or.inl ⟨by rfl, ?_⟩
    intro w hSw
    try dsimp only at hSw
    go_simp
    all_goals with_reducible rfl
  try simp only [Act.put, List.setIfInBounds_toArray, List.set_cons_zero, List.set_cons_succ]
  refine wpAnyH_take (i := 34) (oi := ?oq_1_34) (v := ?va_1_34) ?op_1_34 (by kernel_rfl) (by kernel_rfl) (by kernel_rfl) (fun _ _ _ h => h) ?yi_1_34 hHeld ?re_1_34
  case op_1_34 => (simp only [List.getElem?_toArray, List.getElem?_cons_succ, List.getElem?_cons_zero]; rfl)
  case yi_1_34 =>
    refine Or.inl ⟨by rfl, ?_⟩
    intro w hSw
    try dsimp only at hSw
    go_simp
    all_goals with_reducible rfl
  try simp only [Act.put, List.setIfInBounds_toArray, List.set_cons_zero, List.set_cons_succ]
  refine wpAnyH_take (i := 35) (oi := ?oq_1_35) (v := ?va_1_35) ?op_1_35 (by kernel_rfl) (by kernel_rfl) (by kernel_rfl) (fun _ _ _ h => h) ?yi_1_35 hHeld ?re_1_35
  case op_1_35 => (simp only [List.getElem?_toArray, List.getElem?_cons_succ, List.getElem?_cons_zero]; rfl)
  case yi_1_35 =>
    refine Or.inl ⟨by rfl, ?_⟩
    intro w hSw
    try dsimp only at hSw
    go_simp
    all_goals with_reducible rfl
  try simp only [Act.put, List.setIfInBounds_toArray, List.set_cons_zero, List.set_cons_succ]
  refine wpAnyH_take (i := 36) (oi := ?oq_1_36) (v := ?va_1_36) ?op_1_36 (by kernel_rfl) (by kernel_rfl) (by kernel_rfl) (fun _ _ _ h => h) ?yi_1_36 hHeld ?re_1_36
  case op_1_36 => (simp only [List.getElem?_toArray, List.getElem?_cons_succ, List.getElem?_cons_zero]; rfl)
  case yi_1_36 =>
    refine Or.inl ⟨by rfl, ?_⟩
    intro w hSw
    try dsimp only at hSw
    go_simp
    all_goals with_reducible rfl
  try simp only [Act.put, List.setIfInBounds_toArray, List.set_cons_zero, List.set_cons_succ]
  refine wpAnyH_take (i := 37) (oi := ?oq_1_37) (v := ?va_1_37) ?op_1_37 (by kernel_rfl) (by kernel_rfl) (by kernel_rfl) (fun _ _ _ h => h) ?yi_1_37 hHeld ?re_1_37
  case op_1_37 => (simp only [List.getElem?_toArray, List.getElem?_cons_succ, List.getElem?_cons_zero]; rfl)
  case yi_1_37 =>
    refine Or.inl ⟨by rfl, ?_⟩
    intro w hSw
    try dsimp only at hSw
    go_simp
    all_goals with_reducible rfl
  try simp only [Act.put, List.setIfInBounds_toArray, List.set_cons_zero, List.set_cons_succ]
  refine wpAnyH_take (i := 38) (oi := ?oq_1_38) (v := ?va_1_38) ?op_1_38 (by kernel_rfl) (by kernel_rfl) (by kernel_rfl) (fun _ _ _ h => h) ?yi_1_38 hHeld ?re_1_38
  case op_1_38 => (simp only [List.getElem?_toArray, List.getElem?_cons_succ, List.getElem?_cons_zero]; rfl)
  case yi_1_38 =>
    refine Or.inl ⟨by rfl, ?_⟩
    intro w hSw
    try dsimp only at hSw
    go_simp
    all_goals with_reducible rfl
  try simp only [Act.put, List.setIfInBounds_toArray, List.set_cons_zero, List.set_cons_succ]
  refine wpAnyH_take (i := 39) (oi := ?oq_1_39) (v := ?va_1_39) ?op_1_39 (by kernel_rfl) (by kernel_rfl) (by kernel_rfl) (fun _ _ _ h => h) ?yi_1_39 hHeld ?re_1_39
  case op_1_39 => (simp only [List.getElem?_toArray, List.getElem?_cons_succ, List.getElem?_cons_zero]; rfl)
  case yi_1_39 =>
    refine Or.inl ⟨by rfl, ?_⟩
    intro w hSw
    try dsimp only at hSw
    go_simp
    all_goals with_reducible rfl
  try simp only [Act.put, List.setIfInBounds_toArray, List.set_cons_zero, List.set_cons_succ]
  refine wpAnyH_take (i := 40) (oi := ?oq_1_40) (v := ?va_1_40) ?op_1_40 (by kernel_rfl) (by kernel_rfl) (by kernel_rfl) (fun _ _ _ h => h) ?yi_1_40 hHeld ?re_1_40
  case op_1_40 => (simp only [List.getElem?_toArray, List.getElem?_cons_succ, List.getElem?_cons_zero]; rfl)
  case yi_1_40 =>
    refine Or.inl ⟨by rfl, ?_⟩
    intro w hSw
    try dsimp only at hSw
    go_simp
    all_goals with_reducible rfl
  try simp only [Act.put, List.setIfInBounds_toArray, List.set_cons_zero, List.set_cons_succ]
  refine wpAnyH_take (i := 41) (oi := ?oq_1_41) (v := ?va_1_41) ?op_1_41 (by kernel_rfl) (by kernel_rfl) (by kernel_rfl) (fun _ _ _ h => h) ?yi_1_41 hHeld ?re_1_41
  case op_1_41 => (simp only [List.getElem?_toArray, List.getElem?_cons_succ, List.getElem?_cons_zero]; rfl)
  case yi_1_41 =>
    refine Or.inl ⟨by rfl, ?_⟩
    intro w hSw
    try dsimp only at hSw
    go_simp
    all_goals with_reducible rfl
  try simp only [Act.put, List.setIfInBounds_toArray, List.set_cons_zero, List.set_cons_succ]
  refine wpAnyH_ready (rs := [42]) (by kernel_rfl) (by simp) (AllReadyH.cons (o := ?oq_1_42) ?op_1_42 (fun K hK => ?re_1_42) AllReadyH.nil)
  case op_1_42 => (simp only [List.getElem?_toArray, List.getElem?_cons_succ, List.getElem?_cons_zero]; rfl)
  go_simp
  go_at_call 15
  refine (nlen_any (by exact hN5)).mono ?_
  rintro en z5 ⟨rfl, rfl⟩
  refine hK.out _ _ (by exact ⟨hX5, hX7⟩) (fun hHeld => ?_)
  clear hK K
  try simp only [Act.put, List.setIfInBounds_toArray, List.set_cons_zero, List.set_cons_succ]
  refine wpAnyH_take (i := 43) (oi := ?oq_1_43) (v := ?va_1_43) ?op_1_43 (by kernel_rfl) (by kernel_rfl) (by kernel_rfl) (fun _ _ _ h => h) ?yi_1_43 hHeld ?re_1_43
  case op_1_43 => (simp only [List.getElem?_toArray, List.getElem?_cons_succ, List.getElem?_cons_zero]; rfl)
  case yi_1_43 =>
    refine Or.inl ⟨by rfl, ?_⟩
    intro w hSw
    try dsimp only at hSw
    go_simp
    all_goals with_reducible rfl
  try simp only [Act.put, List.setIfInBounds_toArray, List.set_cons_zero, List.set_cons_succ]
  refine wpAnyH_take (i := 44) (oi := ?oq_1_44) (v := ?va_1_44) ?op_1_44 (by kernel_rfl) (by kernel_rfl) (by kernel_rfl) (fun _ _ _ h => h) ?yi_1_44 hHeld ?re_1_44
  case op_1_44 => (simp only [List.getElem?_toArray, List.getElem?_cons_succ, List.getElem?_cons_zero]; rfl)
  case yi_1_44 =>
    refine Or.inl ⟨by rfl, ?_⟩
    intro w hSw
    try dsimp only at hSw
    go_simp
    all_goals with_reducible rfl
  try simp only [Act.put, List.setIfInBounds_toArray, List.set_cons_zero, List.set_cons_succ]
  refine wpAnyH_take (i := 45) (oi := ?oq_1_45) (v := ?va_1_45) ?op_1_45 (by kernel_rfl) (by kernel_rfl) (by kernel_rfl) (fun _ _ _ h => h) ?yi_1_45 hHeld ?re_1_45
  case op_1_45 => (simp only [List.getElem?_toArray, List.getElem?_cons_succ, List.getElem?_cons_zero]; rfl)
  case yi_1_45 =>
    refine Or.inl ⟨by rfl, ?_⟩
    intro w hSw
    try dsimp only at hSw
    go_simp
    all_goals with_reducible rfl
  try simp only [Act.put, List.setIfInBounds_toArray, List.set_cons_zero, List.set_cons_succ]
  refine wpAnyH_done (by kernel_rfl) ?_ _
  refine NoPanic.normal ?_
  go_wp2_with fail
  go_ret
  exact ⟨rfl, hb⟩
end Go.Proofs.YtnaabaahfjklhaaGreat
