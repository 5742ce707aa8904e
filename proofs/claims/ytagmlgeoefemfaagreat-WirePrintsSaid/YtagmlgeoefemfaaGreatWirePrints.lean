/- WirePrints: for every message the law answers true. No condition. -/
import Derived.Test.YtagmlgeoefemfaaGreatWireRefRead
import Derived.Test.YtagmlgeoefemfaaGreatWireFew
namespace Go.Proofs.YtagmlgeoefemfaaGreat
open Go.RowKit Go.ChangeShapes Go.WideShapes Go.Joins Go.Deep
set_option linter.unusedVariables false

theorem printM_not {M : MsgV} (h : mayW M = false) : printM M = ([], 1) := by rw [printM, if_neg (by simp [h])]
theorem printM_big {M : MsgV} (h : mayW M = true) (hl : 1024 < (frame (textOf M)).length) : printM M = ([], 15) := by rw [printM, if_pos h, if_pos hl]
theorem printM_yes {M : MsgV} (h : mayW M = true) (hl : ¬ 1024 < (frame (textOf M)).length) : printM M = (frame (textOf M), 0) := by rw [printM, if_pos h, if_neg hl]
theorem readM_print {M : MsgV} (hok : MOk M) (h : mayW M = true) (hl : ¬ 1024 < (frame (textOf M)).length) : readM (frame (textOf M)) = (M, 0) := by
  rw [readM, if_neg hl, msg_print hok h]
  rfl

set_option maxRecDepth 100000 in
set_option maxHeartbeats 2000000 in

theorem WirePrints_go {w : World} {M : MsgV} {v : Value} (hv : M.At w v) (hok : MOk M) :
    Calls Tryz.prog 3 #[v] w fun e w' => e = .returned (.bool true) ∧ Below w.heap.size w w' := by
  obtain ⟨cs, rfl, hlen, hone, hA⟩ := At.parts hv hok.op.1
  clear hv hone
  have hM := BlkAt.new w 34 cs
  have hb := (Below.refl w.heap.size w).alloc (Nat.le_refl _) (.cells cs.toArray 34)
  have hA1 := hA.below hb
  clear hA
  have hA := hA1
  clear hA1
  go_enter Tryz.func3, Tryz.ntmps3
  go_upto_region 1 with (fail)
  change Code.wp _ _ _ _ (w.alloc (.cells cs.toArray 34))
  change BlkAt (w.alloc (.cells cs.toArray 34)) _ _ _ at hM
  generalize w.alloc (.cells cs.toArray 34) = W at *
  obtain ⟨m, hm⟩ : ∃ m, m = w.heap.size := ⟨_, rfl⟩
  rw [← hm] at hM ⊢
  clear hm
  go_wp2_with fail
  refine (awake_any _).mono ?_
  rintro en w1 ⟨rfl, b1⟩
  have hMq := hM.below b1
  clear hM
  have hM := hMq
  clear hMq
  have hAq := hA.below b1
  clear hA
  have hA := hAq
  clear hAq
  have hbq := below_step hb b1
  clear hb
  have hb := hbq
  clear hbq b1
  cases hf : fewM M with
  | false =>
    have HF := Lib.hid hf
    clear hf
    go_wp2_with (refine wpList_load_want (by rfl) 34 (.tmp 1) rfl m 0 rfl cs _ hM.range Tryz.underlying34 rfl (by rw [hlen]; exact msg_info) ?_; simp only [Act.put, List.setIfInBounds_toArray, List.set_cons_zero, List.set_cons_succ])
    refine (qfew_any (by exact hA) hok.op HF.out).mono ?_
    rintro en w2 ⟨rfl, b2⟩
    have hMq := hM.below b2
    clear hM
    have hM := hMq
    clear hMq
    have hAq := hA.below b2
    clear hA
    have hA := hAq
    clear hAq
    have hbq := below_step hb b2
    clear hb
    have hb := hbq
    clear hbq b2
    clear hM hA
    go_wp2_with fail
    refine (awake_any _).mono ?_
    rintro en w3 ⟨rfl, b3⟩
    have hb3 := below_step hb b3
    go_wp2_with fail
    go_ret
    exact ⟨rfl, hb3⟩
  | true =>
    have HF := Lib.hid hf
    have hfew := fewM_iff.1 hf
    clear hf
    go_wp2_with (refine wpList_load_want (by rfl) 34 (.tmp 1) rfl m 0 rfl cs _ hM.range Tryz.underlying34 rfl (by rw [hlen]; exact msg_info) ?_; simp only [Act.put, List.setIfInBounds_toArray, List.set_cons_zero, List.set_cons_succ])
    refine (qfew_any (by exact hA) hok.op HF.out).mono ?_
    rintro en w2 ⟨rfl, b2⟩
    have hMq := hM.below b2
    clear hM
    have hM := hMq
    clear hMq
    have hAq := hA.below b2
    clear hA
    have hA := hAq
    clear hAq
    have hbq := below_step hb b2
    clear hb
    have hb := hbq
    clear hbq b2
    cases hmy : mayW M with
    | false =>
      have HMY := Lib.hid hmy
      clear hmy
      go_wp2_with (refine wpList_load_mid rfl 34 (.tmp 1) rfl m 0 rfl cs _ hM.range Tryz.underlying34 rfl (by rw [hlen]; exact msg_info) ?_; simp only [Act.put, List.setIfInBounds_toArray, List.set_cons_zero, List.set_cons_succ])
      refine (wprint_any (by exact hA) hok (by omega) (by omega) (printM_not HMY.out)).mono ?_
      rintro en w3 ⟨rfl, b3⟩
      have hMq := hM.below b3
      clear hM
      have hM := hMq
      clear hMq
      have hAq := hA.below b3
      clear hA
      have hA := hAq
      clear hAq
      have hbq := below_step hb b3
      clear hb
      have hb := hbq
      clear hbq b3
      go_wp2_with (refine wpList_load_mid rfl 34 (.tmp 1) rfl m 0 rfl cs _ hM.range Tryz.underlying34 rfl (by rw [hlen]; exact msg_info) ?_; simp only [Act.put, List.setIfInBounds_toArray, List.set_cons_zero, List.set_cons_succ])
      refine (qwmay_any (by exact hA) hok HMY.out).mono ?_
      rintro en w4 ⟨rfl, b4⟩
      have hMq := hM.below b4
      clear hM
      have hM := hMq
      clear hMq
      have hAq := hA.below b4
      clear hA
      have hA := hAq
      clear hAq
      have hbq := below_step hb b4
      clear hb
      have hb := hbq
      clear hbq b4
      clear hM hA
      go_wp2_with fail
      go_ret
      exact ⟨rfl, hb⟩
    | true =>
      have HMY := Lib.hid hmy
      clear hmy
      obtain ⟨hsm, hf8⟩ := mayW_small HMY.out
      have hk := mayW_iff.1 HMY.out
      have hk : 1 ≤ M.kind ∧ M.kind ≤ 15 := ⟨hk.1, hk.2.1⟩
      obtain ⟨F, hFF⟩ : ∃ F, F = frame (textOf M) := ⟨_, rfl⟩
      by_cases hlg : 1024 < F.length
      · have j1 : (1024 : Int) < (F.length : Int) := by omega
        have HLG := Lib.hid (show 1024 < (frame (textOf M)).length by rw [← hFF]; exact hlg)
        have HFF := Lib.hid hFF
        clear hlg hFF
        go_wp2_with (refine wpList_load_mid rfl 34 (.tmp 1) rfl m 0 rfl cs _ hM.range Tryz.underlying34 rfl (by rw [hlen]; exact msg_info) ?_; simp only [Act.put, List.setIfInBounds_toArray, List.set_cons_zero, List.set_cons_succ])
        refine (wprint_any (by exact hA) hok (by omega) (by omega) (printM_big HMY.out HLG.out)).mono ?_
        rintro en w3 ⟨rfl, b3⟩
        have hMq := hM.below b3
        clear hM
        have hM := hMq
        clear hMq
        have hAq := hA.below b3
        clear hA
        have hA := hAq
        clear hAq
        have hbq := below_step hb b3
        clear hb
        have hb := hbq
        clear hbq b3
        go_wp2_with (refine wpList_load_mid rfl 34 (.tmp 1) rfl m 0 rfl cs _ hM.range Tryz.underlying34 rfl (by rw [hlen]; exact msg_info) ?_; simp only [Act.put, List.setIfInBounds_toArray, List.set_cons_zero, List.set_cons_succ])
        refine (qwmay_any (by exact hA) hok HMY.out).mono ?_
        rintro en w4 ⟨rfl, b4⟩
        have hMq := hM.below b4
        clear hM
        have hM := hMq
        clear hMq
        have hAq := hA.below b4
        clear hA
        have hA := hAq
        clear hAq
        have hbq := below_step hb b4
        clear hb
        have hb := hbq
        clear hbq b4
        go_wp2_with (refine wpList_load_mid rfl 34 (.tmp 1) rfl m 0 rfl cs _ hM.range Tryz.underlying34 rfl (by rw [hlen]; exact msg_info) ?_; simp only [Act.put, List.setIfInBounds_toArray, List.set_cons_zero, List.set_cons_succ])
        refine (qwprint_any (by exact hA) hok hsm hf8 hk).mono ?_
        rintro en w5 ⟨rfl, b5⟩
        rw [← HFF.out]
        have hMq := hM.below b5
        clear hM
        have hM := hMq
        clear hMq
        have hAq := hA.below b5
        clear hA
        have hA := hAq
        clear hAq
        have hbq := below_step hb b5
        clear hb
        have hb := hbq
        clear hbq b5
        clear hM hA
        go_wp2_with fail
        go_ret
        exact ⟨rfl, hb⟩
      · have j1 : ¬ (1024 : Int) < (F.length : Int) := by omega
        have HP := Lib.hid (show printM M = (F, 0) by rw [hFF]; exact printM_yes HMY.out (by rw [← hFF]; exact hlg))
        have HRD := Lib.hid (show readM F = (M, 0) by rw [hFF]; exact readM_print hok HMY.out (by rw [← hFF]; exact hlg))
        have HFF := Lib.hid hFF
        clear hlg hFF
        go_wp2_with (refine wpList_load_mid rfl 34 (.tmp 1) rfl m 0 rfl cs _ hM.range Tryz.underlying34 rfl (by rw [hlen]; exact msg_info) ?_; simp only [Act.put, List.setIfInBounds_toArray, List.set_cons_zero, List.set_cons_succ])
        refine (wprint_any (by exact hA) hok (by omega) (by omega) HP.out).mono ?_
        rintro en w3 ⟨rfl, b3⟩
        have hMq := hM.below b3
        clear hM
        have hM := hMq
        clear hMq
        have hAq := hA.below b3
        clear hA
        have hA := hAq
        clear hAq
        have hbq := below_step hb b3
        clear hb
        have hb := hbq
        clear hbq b3
        go_wp2_with (refine wpList_load_mid rfl 34 (.tmp 1) rfl m 0 rfl cs _ hM.range Tryz.underlying34 rfl (by rw [hlen]; exact msg_info) ?_; simp only [Act.put, List.setIfInBounds_toArray, List.set_cons_zero, List.set_cons_succ])
        refine (qwmay_any (by exact hA) hok HMY.out).mono ?_
        rintro en w4 ⟨rfl, b4⟩
        have hMq := hM.below b4
        clear hM
        have hM := hMq
        clear hMq
        have hAq := hA.below b4
        clear hA
        have hA := hAq
        clear hAq
        have hbq := below_step hb b4
        clear hb
        have hb := hbq
        clear hbq b4
        go_wp2_with (refine wpList_load_mid rfl 34 (.tmp 1) rfl m 0 rfl cs _ hM.range Tryz.underlying34 rfl (by rw [hlen]; exact msg_info) ?_; simp only [Act.put, List.setIfInBounds_toArray, List.set_cons_zero, List.set_cons_succ])
        refine (qwprint_any (by exact hA) hok hsm hf8 hk).mono ?_
        rintro en w5 ⟨rfl, b5⟩
        rw [← HFF.out]
        have hMq := hM.below b5
        clear hM
        have hM := hMq
        clear hMq
        have hAq := hA.below b5
        clear hA
        have hA := hAq
        clear hAq
        have hbq := below_step hb b5
        clear hb
        have hb := hbq
        clear hbq b5
        go_wp2_with fail
        refine (wread_any HRD.out).mono ?_
        rintro en w6 ⟨v2, rfl, hF2, b6⟩
        have hMq := hM.below b6
        clear hM
        have hM := hMq
        clear hMq
        have hAq := hA.below b6
        clear hA
        have hA := hAq
        clear hAq
        have hbq := below_step hb b6
        clear hb
        have hb := hbq
        clear hbq b6
        obtain ⟨es, rfl, hlen2, hone2, hF3⟩ := From.parts hF2 hok.op.1
        have hA2 := hF3.at
        clear hF2 hF3
        have hX := BlkAt.new w6 34 [.int .i64 0, .int .i64 0, .int .i64 0, .int .i64 0, .int .i64 0, .int .i64 0, .int .i64 0, .int .i64 0, .int .i64 0, .int .i64 0, .bool false, .int .i64 0, .int .i64 0, .int .i64 0, .int .i64 0, .int .i64 0, .int .i64 0, .int .i64 0, .int .i64 0, .int .i64 0, .string ⟨#[]⟩, .int .i64 0, .int .i64 0, .int .i64 0, .int .i64 0, .slice none 0 0, .slice none 0 0, .int .i64 0]
        have HL1 := Lib.hid (show es.length = ([.int .i64 0, .int .i64 0, .int .i64 0, .int .i64 0, .int .i64 0, .int .i64 0, .int .i64 0, .int .i64 0, .int .i64 0, .int .i64 0, .bool false, .int .i64 0, .int .i64 0, .int .i64 0, .int .i64 0, .int .i64 0, .int .i64 0, .int .i64 0, .int .i64 0, .int .i64 0, .string ⟨#[]⟩, .int .i64 0, .int .i64 0, .int .i64 0, .int .i64 0, .slice none 0 0, .slice none 0 0, .int .i64 0] : List Value).length by rw [hlen2]; rfl)
        have b4 := (Below.refl w6.heap.size w6).alloc (Nat.le_refl _) (.cells #[.int .i64 0, .int .i64 0, .int .i64 0, .int .i64 0, .int .i64 0, .int .i64 0, .int .i64 0, .int .i64 0, .int .i64 0, .int .i64 0, .bool false, .int .i64 0, .int .i64 0, .int .i64 0, .int .i64 0, .int .i64 0, .int .i64 0, .int .i64 0, .int .i64 0, .int .i64 0, .string ⟨#[]⟩, .int .i64 0, .int .i64 0, .int .i64 0, .int .i64 0, .slice none 0 0, .slice none 0 0, .int .i64 0] 34)
        have G4 := grown_setCells w6.heap.size es 0 (w6.alloc (.cells #[.int .i64 0, .int .i64 0, .int .i64 0, .int .i64 0, .int .i64 0, .int .i64 0, .int .i64 0, .int .i64 0, .int .i64 0, .int .i64 0, .bool false, .int .i64 0, .int .i64 0, .int .i64 0, .int .i64 0, .int .i64 0, .int .i64 0, .int .i64 0, .int .i64 0, .int .i64 0, .string ⟨#[]⟩, .int .i64 0, .int .i64 0, .int .i64 0, .int .i64 0, .slice none 0 0, .slice none 0 0, .int .i64 0] 34))
        have b5 := b4.grown G4 b4.size (by intro j hj; cases hj; exact Nat.le_refl _)
        have hY7n := hX.stored (vs := es) HL1.out
        have HT := Lib.hid (blk_there2 hX HL1.out)
        have hMn := hM.below b5
        clear hM
        have hM := hMn
        clear hMn
        have hAn := hA.below b5
        clear hA
        have hA := hAn
        clear hAn
        have hA2n := hA2.below b5
        clear hA2
        have hA2 := hA2n
        clear hA2n
        have hbn := below_step hb b5
        clear hb
        have hb := hbn
        clear hbn
        clear hX b4 G4 b5 HL1
        go_upto_region 10 with (first | (refine wpList_store_mid rfl 34 (.tmp 6) (.tmp 44) rfl w6.heap.size 0 es.toArray rfl rfl (by exact HT.out) (by rw [List.size_toArray, hlen2]; exact msg_info) hone2 ?_; rw [List.toList_toArray]))
        change Code.wp _ _ _ _ ((w6.alloc (.cells #[.int .i64 0, .int .i64 0, .int .i64 0, .int .i64 0, .int .i64 0, .int .i64 0, .int .i64 0, .int .i64 0, .int .i64 0, .int .i64 0, .bool false, .int .i64 0, .int .i64 0, .int .i64 0, .int .i64 0, .int .i64 0, .int .i64 0, .int .i64 0, .int .i64 0, .int .i64 0, .string ⟨#[]⟩, .int .i64 0, .int .i64 0, .int .i64 0, .int .i64 0, .slice none 0 0, .slice none 0 0, .int .i64 0] 34)).setCells w6.heap.size 0 es)
        generalize (w6.alloc (.cells #[.int .i64 0, .int .i64 0, .int .i64 0, .int .i64 0, .int .i64 0, .int .i64 0, .int .i64 0, .int .i64 0, .int .i64 0, .int .i64 0, .bool false, .int .i64 0, .int .i64 0, .int .i64 0, .int .i64 0, .int .i64 0, .int .i64 0, .int .i64 0, .int .i64 0, .int .i64 0, .string ⟨#[]⟩, .int .i64 0, .int .i64 0, .int .i64 0, .int .i64 0, .slice none 0 0, .slice none 0 0, .int .i64 0] 34)).setCells w6.heap.size 0 es = W7 at *
        have hY7 := hY7n
        clear hY7n HT
        obtain ⟨y, hLL⟩ : ∃ q, q = w6.heap.size := ⟨_, rfl⟩
        rw [← hLL] at hY7 ⊢
        have HEy := Lib.hid hLL
        clear hLL
        go_wp2_with (first | (refine wpList_load_want (by rfl) 34 (.tmp 1) rfl m 0 rfl cs _ hM.range Tryz.underlying34 rfl (by rw [hlen]; exact msg_info) ?_; simp only [Act.put, List.setIfInBounds_toArray, List.set_cons_zero, List.set_cons_succ]) | (refine wpList_load_want (by rfl) 34 (.tmp 6) rfl y 0 rfl es _ hY7.range Tryz.underlying34 rfl (by rw [hlen2]; exact msg_info) ?_; simp only [Act.put, List.setIfInBounds_toArray, List.set_cons_zero, List.set_cons_succ]))
        refine (qwsame_any (by exact hA2) (by exact hA) hok.op.1 hok.op.1).mono ?_
        rintro en w8 ⟨rfl, b8⟩
        rw [decide_eq_true (rfl : M = M)]
        have hb8 := below_step hb b8
        go_wp2_with fail
        go_ret
        exact ⟨rfl, hb8⟩
set_option maxRecDepth 100000 in
theorem WirePrints_walk {H : Type} {enc : TypeId × Value → H} {base : Nat} {d : DataW H} {p : List MemPlace} (v : Value) (w : World) (hv : Value.okWide Tryz.prog w .any base 34 v) (ht : DataW.Trod enc Tryz.prog w 0 (fun _ => true) true 34 v d p) :
    Calls Tryz.prog 3 #[v] w fun e w' => e = .returned (.bool true) ∧ Below w.heap.size w w' := by
  obtain ⟨M, hok, hA⟩ := open_msg hv ht
  exact WirePrints_go hA hok


set_option maxRecDepth 100000 in
theorem WirePrints_calls (H : Type) (enc : TypeId × Value → H) (W : World) (base : Nat) (args : Array Value) (ds gs : List (DataW H)) (before : List MemPlace)
    (hval : ∀ (j : Nat) t v, Tryz.f3.params[j]? = some t → args[j]? = some v → Value.okWide Tryz.prog W .any base t v)
    (hW : DataW.Whole enc Tryz.prog Tryz.f3.params.toList Rows.wirePrintsSpec.vars false W args.toList ds gs before) :
    Calls Tryz.prog 3 args W fun e W' => e = .returned (.bool true) ∧ Below W.heap.size W W' := by
  obtain ⟨p, q, hA, hV, rfl, hfz, hnd⟩ := hW
  rw [Tryz.params3] at hA hval
  obtain ⟨v0, vs0, d0, ds0, p0, q0, hargs, rfl, rfl, h0, r0⟩ := trodAll_cons hA
  obtain ⟨rfl, rfl, rfl⟩ := trodAll_nil r0
  obtain rfl : args = #[v0] := Array.toList_inj.1 hargs

  exact WirePrints_walk v0 W (hval 0 34 v0 rfl rfl) h0

set_option maxRecDepth 100000 in
theorem WirePrints_lifted (os : Os) (started : os.Started) (H : Type) (enc : TypeId × Value → H) :
    ReturnsInHanded {} Tryz.checked os 3 .any (Rows.wirePrintsSpec.pre6 enc Tryz.prog Tryz.f3 Rows.wirePrintsRow.domain false) (Rows.wirePrintsSpec.post enc Tryz.prog Tryz.f3 false true false false) := by
  refine returnsInHanded_of_change (C := Tryz.checked) own started (by kernel_rfl) Tryz.func3
    (ChangeSpec.witness6 (enc := enc) (C := Tryz.checked) false ⟨#[], #[.agg #[.int .i64 0, .int .i64 0, .int .i64 0, .int .i64 0, .int .i64 0, .int .i64 0, .int .i64 0, .int .i64 0, .int .i64 0, .int .i64 0, .bool false, .int .i64 0, .int .i64 0, .int .i64 0, .int .i64 0, .int .i64 0, .int .i64 0, .int .i64 0, .int .i64 0, .int .i64 0, .string ByteArray.empty, .int .i64 0, .int .i64 0, .int .i64 0, .int .i64 0, .slice none 0 0, .slice none 0 0, .int .i64 0]], []⟩ 8 (by kernel_rfl) (by kernel_rfl) (by kernel_rfl) (by kernel_rfl)) ?_
  intro W base args ds gs before hval0 hW hcnd _
  have hval : ∀ (j : Nat) t v, Tryz.f3.params[j]? = some t → args[j]? = some v → Value.okWide Tryz.prog W .any base t v := hval0
  refine (WirePrints_calls H enc W base args ds gs before hval hW).mono fun e W' ⟨he, bel⟩ => ?_
  exact ⟨_, he, law_post (ts := [34]) (by rw [Tryz.params3]) (by intro t ht; simp only [List.mem_cons, List.not_mem_nil, or_false] at ht; subst ht <;> exact ⟨by kernel_rfl, of_decide_eq_true (by kernel_rfl)⟩) hW rfl
    (fun ds h => by match ds, h with | [_], _ => rfl) (by kernel_rfl) bel⟩

theorem WirePrints_over : Rows.wirePrintsRow.holds Tryz.pinned (OpenSpec.ofChange Rows.wirePrintsSpec) :=
  OpenClaim.holds_of_wide 3 Tryz.f3 rfl rfl rfl rfl rfl rfl rfl ⟨rfl, rfl, rfl, rfl, rfl⟩ rfl rfl rfl rfl rfl (by kernel_rfl) Tryz.func3 (by kernel_rfl)
    (of_decide_eq_true (by kernel_rfl)) (by unfold Func.isWrapper; first | (rw [if_pos (by decide +kernel)]; kernel_rfl) | (rw [if_neg (by decide +kernel)]; exact ⟨rfl, rfl⟩))
    (fun os started H enc _ => WirePrints_lifted os started H enc)

/-- The statement. -/
theorem WirePrints_proved : Rows.WirePrintsSaid := WirePrints_over

end Go.Proofs.YtagmlgeoefemfaaGreat
