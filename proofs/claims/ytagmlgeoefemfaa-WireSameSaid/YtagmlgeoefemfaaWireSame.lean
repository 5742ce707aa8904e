/- WireSame: for every two messages the law answers true. No condition. -/
import Derived.Test.YtagmlgeoefemfaaWireFew
import Derived.Test.YtagmlgeoefemfaaWireRefSame
namespace Go.Proofs.Ytagmlgeoefemfaa
open Go.RowKit Go.ChangeShapes Go.WideShapes Go.Joins Go.Deep
set_option linter.unusedVariables false

theorem printM_same {M K : MsgV} (hM : MOk M) (hKA : MOk K) {p r : List UInt8} (h1 : printM M = (p, 0)) (h2 : printM K = (r, 0)) : (p == r) = decide (M = K) := by
  unfold printM at h1 h2
  split at h1
  · rename_i m1
    split at h2
    · rename_i m2
      split at h1
      · simp at h1
      · split at h2
        · simp at h2
        · simp only [Prod.mk.injEq, and_true] at h1 h2
          subst h1 h2
          by_cases h : M = K
          · subst h
            simp
          · rw [decide_eq_false h, Bool.eq_false_iff]
            intro h3
            exact h (textOf_inj hM hKA m1 m2 (by simpa using h3))
    · simp at h2
  · simp at h1

set_option maxRecDepth 100000 in
set_option maxHeartbeats 4000000 in

theorem WireSame_go {w : World} {M K : MsgV} {v u : Value} (hv : M.At w v) (hok : MOk M) (hu : K.At w u) (hok2 : MOk K) :
    Calls Try.prog 4 #[v, u] w fun e w' => e = .returned (.bool true) ∧ Below w.heap.size w w' := by
  have hop := hok.op.1
  have hop2 := hok2.op.1
  obtain ⟨cs, rfl, hlen, _, hA⟩ := At.parts hv hop
  obtain ⟨ds, rfl, hlen2, _, hKA⟩ := At.parts hu hop2
  clear hv hu
  have hM := (BlkAt.new w 34 cs).alloc (.cells ds.toArray 34)
  have hN := BlkAt.new (w.alloc (.cells cs.toArray 34)) 34 ds
  have hb := ((Below.refl w.heap.size w).alloc (Nat.le_refl _) (.cells cs.toArray 34)).alloc (by simp) (.cells ds.toArray 34)
  have hA1 := hA.below hb
  have hK1 := hKA.below hb
  go_enter Try.func4, Try.ntmps4
  go_upto_region 1 with (fail)
  change Code.wp _ _ _ _ ((w.alloc (.cells cs.toArray 34)).alloc (.cells ds.toArray 34))
  change BlkAt ((w.alloc (.cells cs.toArray 34)).alloc (.cells ds.toArray 34)) _ _ _ at hM hN
  have hsz : (w.alloc (.cells cs.toArray 34)).heap.size = w.heap.size + 1 := by simp
  rw [hsz] at hN
  generalize (w.alloc (.cells cs.toArray 34)).alloc (.cells ds.toArray 34) = W at *
  obtain ⟨n, hn⟩ : ∃ n, n = w.heap.size + 1 := ⟨_, rfl⟩
  rw [← hn] at hN
  obtain ⟨m, hm⟩ : ∃ m, m = w.heap.size := ⟨_, rfl⟩
  rw [← hm] at hM
  try simp only [hsz]
  rw [← hn, ← hm]
  clear hm hn hA hKA hsz
  have hA := hA1
  have hKA := hK1
  clear hA1 hK1
  go_wp2_with fail
  refine (awake_any _).mono ?_
  rintro en w1 ⟨rfl, b9⟩
  have hMq := hM.below b9
  clear hM
  have hM := hMq
  clear hMq
  have hNq := hN.below b9
  clear hN
  have hN := hNq
  clear hNq
  have hAq := hA.below b9
  clear hA
  have hA := hAq
  clear hAq
  have hKAq := hKA.below b9
  clear hKA
  have hKA := hKAq
  clear hKAq
  have hbq := below_step hb b9
  clear hb
  have hb := hbq
  clear hbq b9
  cases hf : fewM M with
  | false =>
    have HF := Lib.hid hf
    clear hf
    go_wp2_with (first | (refine wpList_load_want (by rfl) 34 (.tmp 2) rfl m 0 rfl cs _ hM.range Try.underlying34 rfl (by rw [hlen]; exact msg_info) ?_; simp only [Act.put, List.setIfInBounds_toArray, List.set_cons_zero, List.set_cons_succ]) | (refine wpList_load_want (by rfl) 34 (.tmp 3) rfl n 0 rfl ds _ hN.range Try.underlying34 rfl (by rw [hlen2]; exact msg_info) ?_; simp only [Act.put, List.setIfInBounds_toArray, List.set_cons_zero, List.set_cons_succ]))
    refine (qfew_any (by exact hA) hok.op HF.out).mono ?_
    rintro en w2 ⟨rfl, b9⟩
    have hMq := hM.below b9
    clear hM
    have hM := hMq
    clear hMq
    have hNq := hN.below b9
    clear hN
    have hN := hNq
    clear hNq
    have hAq := hA.below b9
    clear hA
    have hA := hAq
    clear hAq
    have hKAq := hKA.below b9
    clear hKA
    have hKA := hKAq
    clear hKAq
    have hbq := below_step hb b9
    clear hb
    have hb := hbq
    clear hbq b9
    go_wp2_with fail
    refine (awake_any _).mono ?_
    rintro en w3 ⟨rfl, b9⟩
    have hMq := hM.below b9
    clear hM
    have hM := hMq
    clear hMq
    have hNq := hN.below b9
    clear hN
    have hN := hNq
    clear hNq
    have hAq := hA.below b9
    clear hA
    have hA := hAq
    clear hAq
    have hKAq := hKA.below b9
    clear hKA
    have hKA := hKAq
    clear hKAq
    have hbq := below_step hb b9
    clear hb
    have hb := hbq
    clear hbq b9
    go_wp2_with fail
    go_ret
    exact ⟨rfl, hb⟩
  | true =>
    have HF := Lib.hid hf
    have hfew := fewM_iff.1 hf
    clear hf
    go_wp2_with (first | (refine wpList_load_want (by rfl) 34 (.tmp 2) rfl m 0 rfl cs _ hM.range Try.underlying34 rfl (by rw [hlen]; exact msg_info) ?_; simp only [Act.put, List.setIfInBounds_toArray, List.set_cons_zero, List.set_cons_succ]) | (refine wpList_load_want (by rfl) 34 (.tmp 3) rfl n 0 rfl ds _ hN.range Try.underlying34 rfl (by rw [hlen2]; exact msg_info) ?_; simp only [Act.put, List.setIfInBounds_toArray, List.set_cons_zero, List.set_cons_succ]))
    refine (qfew_any (by exact hA) hok.op HF.out).mono ?_
    rintro en w2 ⟨rfl, b9⟩
    have hMq := hM.below b9
    clear hM
    have hM := hMq
    clear hMq
    have hNq := hN.below b9
    clear hN
    have hN := hNq
    clear hNq
    have hAq := hA.below b9
    clear hA
    have hA := hAq
    clear hAq
    have hKAq := hKA.below b9
    clear hKA
    have hKA := hKAq
    clear hKAq
    have hbq := below_step hb b9
    clear hb
    have hb := hbq
    clear hbq b9
    cases hf2 : fewM K with
    | false =>
      have HF2 := Lib.hid hf2
      clear hf2
      go_wp2_with (first | (refine wpList_load_want (by rfl) 34 (.tmp 2) rfl m 0 rfl cs _ hM.range Try.underlying34 rfl (by rw [hlen]; exact msg_info) ?_; simp only [Act.put, List.setIfInBounds_toArray, List.set_cons_zero, List.set_cons_succ]) | (refine wpList_load_want (by rfl) 34 (.tmp 3) rfl n 0 rfl ds _ hN.range Try.underlying34 rfl (by rw [hlen2]; exact msg_info) ?_; simp only [Act.put, List.setIfInBounds_toArray, List.set_cons_zero, List.set_cons_succ]))
      refine (qfew_any (by exact hKA) hok2.op HF2.out).mono ?_
      rintro en w3 ⟨rfl, b9⟩
      have hMq := hM.below b9
      clear hM
      have hM := hMq
      clear hMq
      have hNq := hN.below b9
      clear hN
      have hN := hNq
      clear hNq
      have hAq := hA.below b9
      clear hA
      have hA := hAq
      clear hAq
      have hKAq := hKA.below b9
      clear hKA
      have hKA := hKAq
      clear hKAq
      have hbq := below_step hb b9
      clear hb
      have hb := hbq
      clear hbq b9
      go_wp2_with fail
      refine (awake_any _).mono ?_
      rintro en w4 ⟨rfl, b9⟩
      have hMq := hM.below b9
      clear hM
      have hM := hMq
      clear hMq
      have hNq := hN.below b9
      clear hN
      have hN := hNq
      clear hNq
      have hAq := hA.below b9
      clear hA
      have hA := hAq
      clear hAq
      have hKAq := hKA.below b9
      clear hKA
      have hKA := hKAq
      clear hKAq
      have hbq := below_step hb b9
      clear hb
      have hb := hbq
      clear hbq b9
      go_wp2_with fail
      go_ret
      exact ⟨rfl, hb⟩
    | true =>
      have HF2 := Lib.hid hf2
      have hfew2 := fewM_iff.1 hf2
      clear hf2
      go_wp2_with (first | (refine wpList_load_want (by rfl) 34 (.tmp 2) rfl m 0 rfl cs _ hM.range Try.underlying34 rfl (by rw [hlen]; exact msg_info) ?_; simp only [Act.put, List.setIfInBounds_toArray, List.set_cons_zero, List.set_cons_succ]) | (refine wpList_load_want (by rfl) 34 (.tmp 3) rfl n 0 rfl ds _ hN.range Try.underlying34 rfl (by rw [hlen2]; exact msg_info) ?_; simp only [Act.put, List.setIfInBounds_toArray, List.set_cons_zero, List.set_cons_succ]))
      refine (qfew_any (by exact hKA) hok2.op HF2.out).mono ?_
      rintro en w3 ⟨rfl, b9⟩
      have hMq := hM.below b9
      clear hM
      have hM := hMq
      clear hMq
      have hNq := hN.below b9
      clear hN
      have hN := hNq
      clear hNq
      have hAq := hA.below b9
      clear hA
      have hA := hAq
      clear hAq
      have hKAq := hKA.below b9
      clear hKA
      have hKA := hKAq
      clear hKAq
      have hbq := below_step hb b9
      clear hb
      have hb := hbq
      clear hbq b9
      obtain ⟨p, x, hp⟩ : ∃ p x, printM M = (p, x) := ⟨_, _, rfl⟩
      obtain ⟨r, y, hr⟩ : ∃ r y, printM K = (r, y) := ⟨_, _, rfl⟩
      have HP := Lib.hid hp
      have HR := Lib.hid hr
      clear hp hr
      go_wp2_with (refine wpList_load_mid rfl 34 (.tmp 2) rfl m 0 rfl cs _ hM.range Try.underlying34 rfl (by rw [hlen]; exact msg_info) ?_; simp only [Act.put, List.setIfInBounds_toArray, List.set_cons_zero, List.set_cons_succ])
      refine (wprint_any (by exact hA) hok (by omega) (by omega) HP.out).mono ?_
      rintro en w4 ⟨rfl, b9⟩
      have hMq := hM.below b9
      clear hM
      have hM := hMq
      clear hMq
      have hNq := hN.below b9
      clear hN
      have hN := hNq
      clear hNq
      have hAq := hA.below b9
      clear hA
      have hA := hAq
      clear hAq
      have hKAq := hKA.below b9
      clear hKA
      have hKA := hKAq
      clear hKAq
      have hbq := below_step hb b9
      clear hb
      have hb := hbq
      clear hbq b9
      go_wp2_with (refine wpList_load_mid rfl 34 (.tmp 3) rfl n 0 rfl ds _ hN.range Try.underlying34 rfl (by rw [hlen2]; exact msg_info) ?_; simp only [Act.put, List.setIfInBounds_toArray, List.set_cons_zero, List.set_cons_succ])
      refine (wprint_any (by exact hKA) hok2 (by omega) (by omega) HR.out).mono ?_
      rintro en w5 ⟨rfl, b9⟩
      have hMq := hM.below b9
      clear hM
      have hM := hMq
      clear hMq
      have hNq := hN.below b9
      clear hN
      have hN := hNq
      clear hNq
      have hAq := hA.below b9
      clear hA
      have hA := hAq
      clear hAq
      have hKAq := hKA.below b9
      clear hKA
      have hKA := hKAq
      clear hKAq
      have hbq := below_step hb b9
      clear hb
      have hb := hbq
      clear hbq b9
      clear hfew hfew2
      obtain ⟨q, hq⟩ : ∃ q, q = decide (M = K) := ⟨_, rfl⟩
      have HQ := Lib.hid hq
      clear hq
      go_upto_region 5 with (fail)
      have hbq : Below w.heap.size w w5.drew := below_drewN hb 1
      have hAq : M.At w5.drew (.agg cs.toArray) := hA
      have hKq : K.At w5.drew (.agg ds.toArray) := hKA
      have hMq : BlkAt w5.drew m 34 cs := hM
      have hNq : BlkAt w5.drew n 34 ds := hN
      clear hb hA hKA hM hN
      have hM := hMq
      have hN := hNq
      clear hMq hNq
      have hb := hbq
      have hA := hAq
      have hKA := hKq
      clear hbq hAq hKq
      by_cases hx : x = 0
      · subst hx
        by_cases hy : y = 0
        · subst hy
          have hpr : (p == r) = q := (printM_same hok hok2 HP.out HR.out).trans HQ.out.symm
          refine wp_region_noPanic ?_
          refine wp_region_held_drew (S := (fun w' => BlkAt w' m 34 cs ∧ BlkAt w' n 34 ds)) (by kernel_rfl) (by exact ⟨hM, hN⟩) (fun hHeld => ?_)
          refine wpAnyH_take (i := 0) (oi := ?oq_1_0) (v := ?va_1_0) ?op_1_0 (by kernel_rfl) (by kernel_rfl) (by kernel_rfl) (fun _ _ _ h => h) ?yi_1_0 hHeld ?re_1_0
          case op_1_0 => (simp only [List.getElem?_toArray, List.getElem?_cons_zero]; rfl)
          case yi_1_0 => exact (by
            refine yieldsIf_load_mid ?_ 34 (.tmp 2) ?_ m 0 ?_ cs _ ?_ Try.underlying34 ?_ (by rw [hlen]; exact msg_info)
            · rfl
            · rfl
            · rfl
            · intro w h
              have h : _ ∧ _ := h
              exact BlkAt.range h.1
            · rfl)
          try simp only [Act.put, List.setIfInBounds_toArray, List.set_cons_zero, List.set_cons_succ]
          refine wpAnyH_take (i := 1) (oi := ?oq_1_1) (v := ?va_1_1) ?op_1_1 (by kernel_rfl) (by kernel_rfl) (by kernel_rfl) (fun _ _ _ h => h) ?yi_1_1 hHeld ?re_1_1
          case op_1_1 => (simp only [List.getElem?_toArray, List.getElem?_cons_succ, List.getElem?_cons_zero]; rfl)
          case yi_1_1 => exact (by
            refine yieldsIf_load_mid ?_ 34 (.tmp 3) ?_ n 0 ?_ ds _ ?_ Try.underlying34 ?_ (by rw [hlen2]; exact msg_info)
            · rfl
            · rfl
            · rfl
            · intro w h
              have h : _ ∧ _ := h
              exact BlkAt.range h.2
            · rfl)
          try simp only [Act.put, List.setIfInBounds_toArray, List.set_cons_zero, List.set_cons_succ]
          refine wpAnyH_take (i := 3) (oi := ?oq_1_3) (v := ?va_1_3) ?op_1_3 (by kernel_rfl) (by kernel_rfl) (by kernel_rfl) (fun _ _ _ h => h) ?yi_1_3 hHeld ?re_1_3
          case op_1_3 => (simp only [List.getElem?_toArray, List.getElem?_cons_succ, List.getElem?_cons_zero]; rfl)
          case yi_1_3 => exact (by
            refine yieldsIf_load_mid ?_ 34 (.tmp 2) ?_ m 0 ?_ cs _ ?_ Try.underlying34 ?_ (by rw [hlen]; exact msg_info)
            · rfl
            · rfl
            · rfl
            · intro w h
              have h : _ ∧ _ := h
              exact BlkAt.range h.1
            · rfl)
          try simp only [Act.put, List.setIfInBounds_toArray, List.set_cons_zero, List.set_cons_succ]
          refine wpAnyH_take (i := 4) (oi := ?oq_1_4) (v := ?va_1_4) ?op_1_4 (by kernel_rfl) (by kernel_rfl) (by kernel_rfl) (fun _ _ _ h => h) ?yi_1_4 hHeld ?re_1_4
          case op_1_4 => (simp only [List.getElem?_toArray, List.getElem?_cons_succ, List.getElem?_cons_zero]; rfl)
          case yi_1_4 => exact (by
            refine yieldsIf_load_mid ?_ 34 (.tmp 3) ?_ n 0 ?_ ds _ ?_ Try.underlying34 ?_ (by rw [hlen2]; exact msg_info)
            · rfl
            · rfl
            · rfl
            · intro w h
              have h : _ ∧ _ := h
              exact BlkAt.range h.2
            · rfl)
          try simp only [Act.put, List.setIfInBounds_toArray, List.set_cons_zero, List.set_cons_succ]
          refine wpAnyH_ready (rs := [2]) (by kernel_rfl) (by simp) (AllReadyH.cons (o := ?oq_1_2) ?op_1_2 (fun K hK => ?re_1_2) AllReadyH.nil)
          case op_1_2 => (simp only [List.getElem?_toArray, List.getElem?_cons_succ, List.getElem?_cons_zero]; rfl)
          go_simp
          go_at_call 10
          refine (wsame_any (by exact hA) (by exact hKA) hop hop2).mono ?_
          rintro en z1 ⟨rfl, b9⟩
          rw [← HQ.out]
          have hMq := hM.below b9
          clear hM
          have hM := hMq
          clear hMq
          have hNq := hN.below b9
          clear hN
          have hN := hNq
          clear hNq
          have hAq := hA.below b9
          clear hA
          have hA := hAq
          clear hAq
          have hKAq := hKA.below b9
          clear hKA
          have hKA := hKAq
          clear hKAq
          have hbq := below_step hb b9
          clear hb
          have hb := hbq
          clear hbq b9
          refine hK.out _ _ (by exact ⟨hM, hN⟩) (fun hHeld => ?_)
          clear hK K
          try simp only [Act.put, List.setIfInBounds_toArray, List.set_cons_zero, List.set_cons_succ]
          refine wpAnyH_ready (rs := [5]) (by kernel_rfl) (by simp) (AllReadyH.cons (o := ?oq_1_5) ?op_1_5 (fun K hK => ?re_1_5) AllReadyH.nil)
          case op_1_5 => (simp only [List.getElem?_toArray, List.getElem?_cons_succ, List.getElem?_cons_zero]; rfl)
          go_simp
          go_at_call 11
          refine (qwsame_any (by exact hA) (by exact hKA) hop hop2).mono ?_
          rintro en z2 ⟨rfl, b9⟩
          rw [← HQ.out]
          have hMq := hM.below b9
          clear hM
          have hM := hMq
          clear hMq
          have hNq := hN.below b9
          clear hN
          have hN := hNq
          clear hNq
          have hAq := hA.below b9
          clear hA
          have hA := hAq
          clear hAq
          have hKAq := hKA.below b9
          clear hKA
          have hKA := hKAq
          clear hKAq
          have hbq := below_step hb b9
          clear hb
          have hb := hbq
          clear hbq b9
          refine hK.out _ _ (by exact ⟨hM, hN⟩) (fun hHeld => ?_)
          clear hK K
          try simp only [Act.put, List.setIfInBounds_toArray, List.set_cons_zero, List.set_cons_succ]
          refine wpAnyH_take (i := 6) (oi := ?oq_1_6) (v := ?va_1_6) ?op_1_6 (by kernel_rfl) (by kernel_rfl) (by kernel_rfl) (fun _ _ _ h => h) ?yi_1_6 hHeld ?re_1_6
          case op_1_6 => (simp only [List.getElem?_toArray, List.getElem?_cons_succ, List.getElem?_cons_zero]; rfl)
          case yi_1_6 =>
            refine Or.inl ⟨by rfl, ?_⟩
            intro w hSw
            try dsimp only at hSw
            go_simp
            all_goals with_reducible rfl
          try simp only [Act.put, List.setIfInBounds_toArray, List.set_cons_zero, List.set_cons_succ]
          refine wpAnyH_take (i := 7) (oi := ?oq_1_7) (v := ?va_1_7) ?op_1_7 (by kernel_rfl) (by kernel_rfl) (by kernel_rfl) (fun _ _ _ h => h) ?yi_1_7 hHeld ?re_1_7
          case op_1_7 => (simp only [List.getElem?_toArray, List.getElem?_cons_succ, List.getElem?_cons_zero]; rfl)
          case yi_1_7 =>
            refine Or.inl ⟨by rfl, ?_⟩
            intro w hSw
            try dsimp only at hSw
            go_simp
            all_goals with_reducible rfl
          try simp only [Act.put, List.setIfInBounds_toArray, List.set_cons_zero, List.set_cons_succ]
          refine wpAnyH_take (i := 8) (oi := ?oq_1_8) (v := ?va_1_8) ?op_1_8 (by kernel_rfl) (by kernel_rfl) (by kernel_rfl) (fun _ _ _ h => h) ?yi_1_8 hHeld ?re_1_8
          case op_1_8 => (simp only [List.getElem?_toArray, List.getElem?_cons_succ, List.getElem?_cons_zero]; rfl)
          case yi_1_8 => exact (by
            refine yieldsIf_load_mid ?_ 34 (.tmp 2) ?_ m 0 ?_ cs _ ?_ Try.underlying34 ?_ (by rw [hlen]; exact msg_info)
            · rfl
            · rfl
            · rfl
            · intro w h
              have h : _ ∧ _ := h
              exact BlkAt.range h.1
            · rfl)
          try simp only [Act.put, List.setIfInBounds_toArray, List.set_cons_zero, List.set_cons_succ]
          refine wpAnyH_take (i := 9) (oi := ?oq_1_9) (v := ?va_1_9) ?op_1_9 (by kernel_rfl) (by kernel_rfl) (by kernel_rfl) (fun _ _ _ h => h) ?yi_1_9 hHeld ?re_1_9
          case op_1_9 => (simp only [List.getElem?_toArray, List.getElem?_cons_succ, List.getElem?_cons_zero]; rfl)
          case yi_1_9 => exact (by
            refine yieldsIf_load_mid ?_ 34 (.tmp 2) ?_ m 0 ?_ cs _ ?_ Try.underlying34 ?_ (by rw [hlen]; exact msg_info)
            · rfl
            · rfl
            · rfl
            · intro w h
              have h : _ ∧ _ := h
              exact BlkAt.range h.1
            · rfl)
          try simp only [Act.put, List.setIfInBounds_toArray, List.set_cons_zero, List.set_cons_succ]
          refine wpAnyH_ready (rs := [10]) (by kernel_rfl) (by simp) (AllReadyH.cons (o := ?oq_1_10) ?op_1_10 (fun K hK => ?re_1_10) AllReadyH.nil)
          case op_1_10 => (simp only [List.getElem?_toArray, List.getElem?_cons_succ, List.getElem?_cons_zero]; rfl)
          go_simp
          go_at_call 10
          refine (wsame_any (by exact hA) (by exact hA) hop hop).mono ?_
          rintro en z3 ⟨rfl, b9⟩
          rw [decide_eq_true (rfl : M = M)]
          have hMq := hM.below b9
          clear hM
          have hM := hMq
          clear hMq
          have hNq := hN.below b9
          clear hN
          have hN := hNq
          clear hNq
          have hAq := hA.below b9
          clear hA
          have hA := hAq
          clear hAq
          have hKAq := hKA.below b9
          clear hKA
          have hKA := hKAq
          clear hKAq
          have hbq := below_step hb b9
          clear hb
          have hb := hbq
          clear hbq b9
          refine hK.out _ _ (by exact ⟨hM, hN⟩) (fun hHeld => ?_)
          clear hK K
          try simp only [Act.put, List.setIfInBounds_toArray, List.set_cons_zero, List.set_cons_succ]
          refine wpAnyH_take (i := 11) (oi := ?oq_1_11) (v := ?va_1_11) ?op_1_11 (by kernel_rfl) (by kernel_rfl) (by kernel_rfl) (fun _ _ _ h => h) ?yi_1_11 hHeld ?re_1_11
          case op_1_11 => (simp only [List.getElem?_toArray, List.getElem?_cons_succ, List.getElem?_cons_zero]; rfl)
          case yi_1_11 =>
            refine Or.inl ⟨by rfl, ?_⟩
            intro w hSw
            try dsimp only at hSw
            go_simp
            all_goals with_reducible rfl
          try simp only [Act.put, List.setIfInBounds_toArray, List.set_cons_zero, List.set_cons_succ]
          refine wpAnyH_take (i := 12) (oi := ?oq_1_12) (v := ?va_1_12) ?op_1_12 (by kernel_rfl) (by kernel_rfl) (by kernel_rfl) (fun _ _ _ h => h) ?yi_1_12 hHeld ?re_1_12
          case op_1_12 => (simp only [List.getElem?_toArray, List.getElem?_cons_succ, List.getElem?_cons_zero]; rfl)
          case yi_1_12 =>
            refine Or.inl ⟨by rfl, ?_⟩
            intro w hSw
            try dsimp only at hSw
            go_simp
            all_goals with_reducible rfl
          try simp only [Act.put, List.setIfInBounds_toArray, List.set_cons_zero, List.set_cons_succ]
          refine wpAnyH_take (i := 13) (oi := ?oq_1_13) (v := ?va_1_13) ?op_1_13 (by kernel_rfl) (by kernel_rfl) (by kernel_rfl) (fun _ _ _ h => h) ?yi_1_13 hHeld ?re_1_13
          case op_1_13 => (simp only [List.getElem?_toArray, List.getElem?_cons_succ, List.getElem?_cons_zero]; rfl)
          case yi_1_13 =>
            refine Or.inl ⟨by rfl, ?_⟩
            intro w hSw
            try dsimp only at hSw
            go_simp
            all_goals with_reducible rfl
          try simp only [Act.put, List.setIfInBounds_toArray, List.set_cons_zero, List.set_cons_succ]
          refine wpAnyH_take (i := 14) (oi := ?oq_1_14) (v := ?va_1_14) ?op_1_14 (by kernel_rfl) (by kernel_rfl) (by kernel_rfl) (fun _ _ _ h => h) ?yi_1_14 hHeld ?re_1_14
          case op_1_14 => (simp only [List.getElem?_toArray, List.getElem?_cons_succ, List.getElem?_cons_zero]; rfl)
          case yi_1_14 =>
            refine Or.inl ⟨by rfl, ?_⟩
            intro w hSw
            try dsimp only at hSw
            go_simp
            all_goals with_reducible rfl
          try simp only [Act.put, List.setIfInBounds_toArray, List.set_cons_zero, List.set_cons_succ]
          refine wpAnyH_take (i := 15) (oi := ?oq_1_15) (v := ?va_1_15) ?op_1_15 (by kernel_rfl) (by kernel_rfl) (by kernel_rfl) (fun _ _ _ h => h) ?yi_1_15 hHeld ?re_1_15
          case op_1_15 => (simp only [List.getElem?_toArray, List.getElem?_cons_succ, List.getElem?_cons_zero]; rfl)
          case yi_1_15 =>
            refine Or.inl ⟨by rfl, ?_⟩
            intro w hSw
            try dsimp only at hSw
            go_simp
            all_goals with_reducible rfl
          try simp only [Act.put, List.setIfInBounds_toArray, List.set_cons_zero, List.set_cons_succ]
          refine wpAnyH_take (i := 16) (oi := ?oq_1_16) (v := ?va_1_16) ?op_1_16 (by kernel_rfl) (by kernel_rfl) (by kernel_rfl) (fun _ _ _ h => h) ?yi_1_16 hHeld ?re_1_16
          case op_1_16 => (simp only [List.getElem?_toArray, List.getElem?_cons_succ, List.getElem?_cons_zero]; rfl)
          case yi_1_16 =>
            refine Or.inl ⟨by rfl, ?_⟩
            intro w hSw
            try dsimp only at hSw
            go_simp
            all_goals with_reducible rfl
          try simp only [Act.put, List.setIfInBounds_toArray, List.set_cons_zero, List.set_cons_succ]
          refine wpAnyH_take (i := 17) (oi := ?oq_1_17) (v := ?va_1_17) ?op_1_17 (by kernel_rfl) (by kernel_rfl) (by kernel_rfl) (fun _ _ _ h => h) ?yi_1_17 hHeld ?re_1_17
          case op_1_17 => (simp only [List.getElem?_toArray, List.getElem?_cons_succ, List.getElem?_cons_zero]; rfl)
          case yi_1_17 =>
            refine Or.inl ⟨by rfl, ?_⟩
            intro w hSw
            try dsimp only at hSw
            go_simp
            all_goals with_reducible rfl
          try simp only [Act.put, List.setIfInBounds_toArray, List.set_cons_zero, List.set_cons_succ]
          refine wpAnyH_take (i := 18) (oi := ?oq_1_18) (v := ?va_1_18) ?op_1_18 (by kernel_rfl) (by kernel_rfl) (by kernel_rfl) (fun _ _ _ h => h) ?yi_1_18 hHeld ?re_1_18
          case op_1_18 => (simp only [List.getElem?_toArray, List.getElem?_cons_succ, List.getElem?_cons_zero]; rfl)
          case yi_1_18 =>
            refine Or.inl ⟨by rfl, ?_⟩
            intro w hSw
            try dsimp only at hSw
            go_simp
            all_goals with_reducible rfl
          try simp only [Act.put, List.setIfInBounds_toArray, List.set_cons_zero, List.set_cons_succ]
          refine wpAnyH_take (i := 19) (oi := ?oq_1_19) (v := ?va_1_19) ?op_1_19 (by kernel_rfl) (by kernel_rfl) (by kernel_rfl) (fun _ _ _ h => h) ?yi_1_19 hHeld ?re_1_19
          case op_1_19 => (simp only [List.getElem?_toArray, List.getElem?_cons_succ, List.getElem?_cons_zero]; rfl)
          case yi_1_19 =>
            refine Or.inl ⟨by rfl, ?_⟩
            intro w hSw
            try dsimp only at hSw
            go_simp
            all_goals with_reducible rfl
          try simp only [Act.put, List.setIfInBounds_toArray, List.set_cons_zero, List.set_cons_succ]
          refine wpAnyH_take (i := 20) (oi := ?oq_1_20) (v := ?va_1_20) ?op_1_20 (by kernel_rfl) (by kernel_rfl) (by kernel_rfl) (fun _ _ _ h => h) ?yi_1_20 hHeld ?re_1_20
          case op_1_20 => (simp only [List.getElem?_toArray, List.getElem?_cons_succ, List.getElem?_cons_zero]; rfl)
          case yi_1_20 =>
            refine Or.inl ⟨by rfl, ?_⟩
            intro w hSw
            try dsimp only at hSw
            go_simp
            all_goals with_reducible rfl
          try simp only [Act.put, List.setIfInBounds_toArray, List.set_cons_zero, List.set_cons_succ]
          refine wpAnyH_take (i := 21) (oi := ?oq_1_21) (v := ?va_1_21) ?op_1_21 (by kernel_rfl) (by kernel_rfl) (by kernel_rfl) (fun _ _ _ h => h) ?yi_1_21 hHeld ?re_1_21
          case op_1_21 => (simp only [List.getElem?_toArray, List.getElem?_cons_succ, List.getElem?_cons_zero]; rfl)
          case yi_1_21 =>
            refine Or.inl ⟨by rfl, ?_⟩
            intro w hSw
            try dsimp only at hSw
            go_simp
            all_goals with_reducible rfl
          try simp only [Act.put, List.setIfInBounds_toArray, List.set_cons_zero, List.set_cons_succ]
          refine wpAnyH_take (i := 22) (oi := ?oq_1_22) (v := ?va_1_22) ?op_1_22 (by kernel_rfl) (by kernel_rfl) (by kernel_rfl) (fun _ _ _ h => h) ?yi_1_22 hHeld ?re_1_22
          case op_1_22 => (simp only [List.getElem?_toArray, List.getElem?_cons_succ, List.getElem?_cons_zero]; rfl)
          case yi_1_22 =>
            refine Or.inl ⟨by rfl, ?_⟩
            intro w hSw
            try dsimp only at hSw
            go_simp
            all_goals with_reducible rfl
          try simp only [Act.put, List.setIfInBounds_toArray, List.set_cons_zero, List.set_cons_succ]
          refine wpAnyH_take (i := 23) (oi := ?oq_1_23) (v := ?va_1_23) ?op_1_23 (by kernel_rfl) (by kernel_rfl) (by kernel_rfl) (fun _ _ _ h => h) ?yi_1_23 hHeld ?re_1_23
          case op_1_23 => (simp only [List.getElem?_toArray, List.getElem?_cons_succ, List.getElem?_cons_zero]; rfl)
          case yi_1_23 => exact (by
            refine yieldsIf_load_mid ?_ 34 (.tmp 2) ?_ m 0 ?_ cs _ ?_ Try.underlying34 ?_ (by rw [hlen]; exact msg_info)
            · rfl
            · rfl
            · rfl
            · intro w h
              have h : _ ∧ _ := h
              exact BlkAt.range h.1
            · rfl)
          try simp only [Act.put, List.setIfInBounds_toArray, List.set_cons_zero, List.set_cons_succ]
          refine wpAnyH_take (i := 24) (oi := ?oq_1_24) (v := ?va_1_24) ?op_1_24 (by kernel_rfl) (by kernel_rfl) (by kernel_rfl) (fun _ _ _ h => h) ?yi_1_24 hHeld ?re_1_24
          case op_1_24 => (simp only [List.getElem?_toArray, List.getElem?_cons_succ, List.getElem?_cons_zero]; rfl)
          case yi_1_24 => exact (by
            refine yieldsIf_load_mid ?_ 34 (.tmp 3) ?_ n 0 ?_ ds _ ?_ Try.underlying34 ?_ (by rw [hlen2]; exact msg_info)
            · rfl
            · rfl
            · rfl
            · intro w h
              have h : _ ∧ _ := h
              exact BlkAt.range h.2
            · rfl)
          try simp only [Act.put, List.setIfInBounds_toArray, List.set_cons_zero, List.set_cons_succ]
          refine wpAnyH_ready (rs := [25]) (by kernel_rfl) (by simp) (AllReadyH.cons (o := ?oq_1_25) ?op_1_25 (fun K hK => ?re_1_25) AllReadyH.nil)
          case op_1_25 => (simp only [List.getElem?_toArray, List.getElem?_cons_succ, List.getElem?_cons_zero]; rfl)
          go_simp
          go_at_call 10
          refine (wsame_any (by exact hA) (by exact hKA) hop hop2).mono ?_
          rintro en z4 ⟨rfl, b9⟩
          rw [← HQ.out]
          have hMq := hM.below b9
          clear hM
          have hM := hMq
          clear hMq
          have hNq := hN.below b9
          clear hN
          have hN := hNq
          clear hNq
          have hAq := hA.below b9
          clear hA
          have hA := hAq
          clear hAq
          have hKAq := hKA.below b9
          clear hKA
          have hKA := hKAq
          clear hKAq
          have hbq := below_step hb b9
          clear hb
          have hb := hbq
          clear hbq b9
          refine hK.out _ _ (by exact ⟨hM, hN⟩) (fun hHeld => ?_)
          clear hK K
          try simp only [Act.put, List.setIfInBounds_toArray, List.set_cons_zero, List.set_cons_succ]
          refine wpAnyH_take (i := 26) (oi := ?oq_1_26) (v := ?va_1_26) ?op_1_26 (by kernel_rfl) (by kernel_rfl) (by kernel_rfl) (fun _ _ _ h => h) ?yi_1_26 hHeld ?re_1_26
          case op_1_26 => (simp only [List.getElem?_toArray, List.getElem?_cons_succ, List.getElem?_cons_zero]; rfl)
          case yi_1_26 =>
            refine Or.inl ⟨by rfl, ?_⟩
            intro w hSw
            try dsimp only at hSw
            go_simp
            all_goals with_reducible rfl
          try simp only [Act.put, List.setIfInBounds_toArray, List.set_cons_zero, List.set_cons_succ]
          refine wpAnyH_take (i := 27) (oi := ?oq_1_27) (v := ?va_1_27) ?op_1_27 (by kernel_rfl) (by kernel_rfl) (by kernel_rfl) (fun _ _ _ h => h) ?yi_1_27 hHeld ?re_1_27
          case op_1_27 => (simp only [List.getElem?_toArray, List.getElem?_cons_succ, List.getElem?_cons_zero]; rfl)
          case yi_1_27 =>
            refine Or.inl ⟨by rfl, ?_⟩
            intro w hSw
            try dsimp only at hSw
            go_simp
            all_goals with_reducible rfl
          try simp only [Act.put, List.setIfInBounds_toArray, List.set_cons_zero, List.set_cons_succ]
          refine wpAnyH_take (i := 28) (oi := ?oq_1_28) (v := ?va_1_28) ?op_1_28 (by kernel_rfl) (by kernel_rfl) (by kernel_rfl) (fun _ _ _ h => h) ?yi_1_28 hHeld ?re_1_28
          case op_1_28 => (simp only [List.getElem?_toArray, List.getElem?_cons_succ, List.getElem?_cons_zero]; rfl)
          case yi_1_28 =>
            refine Or.inl ⟨by rfl, ?_⟩
            intro w hSw
            try dsimp only at hSw
            go_simp
            all_goals with_reducible rfl
          try simp only [Act.put, List.setIfInBounds_toArray, List.set_cons_zero, List.set_cons_succ]
          refine wpAnyH_take (i := 29) (oi := ?oq_1_29) (v := ?va_1_29) ?op_1_29 (by kernel_rfl) (by kernel_rfl) (by kernel_rfl) (fun _ _ _ h => h) ?yi_1_29 hHeld ?re_1_29
          case op_1_29 => (simp only [List.getElem?_toArray, List.getElem?_cons_succ, List.getElem?_cons_zero]; rfl)
          case yi_1_29 =>
            refine Or.inl ⟨by rfl, ?_⟩
            intro w hSw
            try dsimp only at hSw
            go_simp
            all_goals with_reducible rfl
          try simp only [Act.put, List.setIfInBounds_toArray, List.set_cons_zero, List.set_cons_succ]
          refine wpAnyH_done (by kernel_rfl) ?_ _
          refine NoPanic.normal ?_
          go_wp2_with fail
          go_ret
          exact ⟨rfl, hb⟩
        · have hyz : (y != 0) = true := by simpa using hy
          refine wp_region_noPanic ?_
          refine wp_region_held_drew (S := (fun w' => BlkAt w' m 34 cs ∧ BlkAt w' n 34 ds)) (by kernel_rfl) (by exact ⟨hM, hN⟩) (fun hHeld => ?_)
          refine wpAnyH_take (i := 0) (oi := ?oq_2_0) (v := ?va_2_0) ?op_2_0 (by kernel_rfl) (by kernel_rfl) (by kernel_rfl) (fun _ _ _ h => h) ?yi_2_0 hHeld ?re_2_0
          case op_2_0 => (simp only [List.getElem?_toArray, List.getElem?_cons_zero]; rfl)
          case yi_2_0 => exact (by
            refine yieldsIf_load_mid ?_ 34 (.tmp 2) ?_ m 0 ?_ cs _ ?_ Try.underlying34 ?_ (by rw [hlen]; exact msg_info)
            · rfl
            · rfl
            · rfl
            · intro w h
              have h : _ ∧ _ := h
              exact BlkAt.range h.1
            · rfl)
          try simp only [Act.put, List.setIfInBounds_toArray, List.set_cons_zero, List.set_cons_succ]
          refine wpAnyH_take (i := 1) (oi := ?oq_2_1) (v := ?va_2_1) ?op_2_1 (by kernel_rfl) (by kernel_rfl) (by kernel_rfl) (fun _ _ _ h => h) ?yi_2_1 hHeld ?re_2_1
          case op_2_1 => (simp only [List.getElem?_toArray, List.getElem?_cons_succ, List.getElem?_cons_zero]; rfl)
          case yi_2_1 => exact (by
            refine yieldsIf_load_mid ?_ 34 (.tmp 3) ?_ n 0 ?_ ds _ ?_ Try.underlying34 ?_ (by rw [hlen2]; exact msg_info)
            · rfl
            · rfl
            · rfl
            · intro w h
              have h : _ ∧ _ := h
              exact BlkAt.range h.2
            · rfl)
          try simp only [Act.put, List.setIfInBounds_toArray, List.set_cons_zero, List.set_cons_succ]
          refine wpAnyH_take (i := 3) (oi := ?oq_2_3) (v := ?va_2_3) ?op_2_3 (by kernel_rfl) (by kernel_rfl) (by kernel_rfl) (fun _ _ _ h => h) ?yi_2_3 hHeld ?re_2_3
          case op_2_3 => (simp only [List.getElem?_toArray, List.getElem?_cons_succ, List.getElem?_cons_zero]; rfl)
          case yi_2_3 => exact (by
            refine yieldsIf_load_mid ?_ 34 (.tmp 2) ?_ m 0 ?_ cs _ ?_ Try.underlying34 ?_ (by rw [hlen]; exact msg_info)
            · rfl
            · rfl
            · rfl
            · intro w h
              have h : _ ∧ _ := h
              exact BlkAt.range h.1
            · rfl)
          try simp only [Act.put, List.setIfInBounds_toArray, List.set_cons_zero, List.set_cons_succ]
          refine wpAnyH_take (i := 4) (oi := ?oq_2_4) (v := ?va_2_4) ?op_2_4 (by kernel_rfl) (by kernel_rfl) (by kernel_rfl) (fun _ _ _ h => h) ?yi_2_4 hHeld ?re_2_4
          case op_2_4 => (simp only [List.getElem?_toArray, List.getElem?_cons_succ, List.getElem?_cons_zero]; rfl)
          case yi_2_4 => exact (by
            refine yieldsIf_load_mid ?_ 34 (.tmp 3) ?_ n 0 ?_ ds _ ?_ Try.underlying34 ?_ (by rw [hlen2]; exact msg_info)
            · rfl
            · rfl
            · rfl
            · intro w h
              have h : _ ∧ _ := h
              exact BlkAt.range h.2
            · rfl)
          try simp only [Act.put, List.setIfInBounds_toArray, List.set_cons_zero, List.set_cons_succ]
          refine wpAnyH_ready (rs := [2]) (by kernel_rfl) (by simp) (AllReadyH.cons (o := ?oq_2_2) ?op_2_2 (fun K hK => ?re_2_2) AllReadyH.nil)
          case op_2_2 => (simp only [List.getElem?_toArray, List.getElem?_cons_succ, List.getElem?_cons_zero]; rfl)
          go_simp
          go_at_call 10
          refine (wsame_any (by exact hA) (by exact hKA) hop hop2).mono ?_
          rintro en z1 ⟨rfl, b9⟩
          rw [← HQ.out]
          have hMq := hM.below b9
          clear hM
          have hM := hMq
          clear hMq
          have hNq := hN.below b9
          clear hN
          have hN := hNq
          clear hNq
          have hAq := hA.below b9
          clear hA
          have hA := hAq
          clear hAq
          have hKAq := hKA.below b9
          clear hKA
          have hKA := hKAq
          clear hKAq
          have hbq := below_step hb b9
          clear hb
          have hb := hbq
          clear hbq b9
          refine hK.out _ _ (by exact ⟨hM, hN⟩) (fun hHeld => ?_)
          clear hK K
          try simp only [Act.put, List.setIfInBounds_toArray, List.set_cons_zero, List.set_cons_succ]
          refine wpAnyH_ready (rs := [5]) (by kernel_rfl) (by simp) (AllReadyH.cons (o := ?oq_2_5) ?op_2_5 (fun K hK => ?re_2_5) AllReadyH.nil)
          case op_2_5 => (simp only [List.getElem?_toArray, List.getElem?_cons_succ, List.getElem?_cons_zero]; rfl)
          go_simp
          go_at_call 11
          refine (qwsame_any (by exact hA) (by exact hKA) hop hop2).mono ?_
          rintro en z2 ⟨rfl, b9⟩
          rw [← HQ.out]
          have hMq := hM.below b9
          clear hM
          have hM := hMq
          clear hMq
          have hNq := hN.below b9
          clear hN
          have hN := hNq
          clear hNq
          have hAq := hA.below b9
          clear hA
          have hA := hAq
          clear hAq
          have hKAq := hKA.below b9
          clear hKA
          have hKA := hKAq
          clear hKAq
          have hbq := below_step hb b9
          clear hb
          have hb := hbq
          clear hbq b9
          refine hK.out _ _ (by exact ⟨hM, hN⟩) (fun hHeld => ?_)
          clear hK K
          try simp only [Act.put, List.setIfInBounds_toArray, List.set_cons_zero, List.set_cons_succ]
          refine wpAnyH_take (i := 6) (oi := ?oq_2_6) (v := ?va_2_6) ?op_2_6 (by kernel_rfl) (by kernel_rfl) (by kernel_rfl) (fun _ _ _ h => h) ?yi_2_6 hHeld ?re_2_6
          case op_2_6 => (simp only [List.getElem?_toArray, List.getElem?_cons_succ, List.getElem?_cons_zero]; rfl)
          case yi_2_6 =>
            refine Or.inl ⟨by rfl, ?_⟩
            intro w hSw
            try dsimp only at hSw
            go_simp
            all_goals with_reducible rfl
          try simp only [Act.put, List.setIfInBounds_toArray, List.set_cons_zero, List.set_cons_succ]
          refine wpAnyH_take (i := 7) (oi := ?oq_2_7) (v := ?va_2_7) ?op_2_7 (by kernel_rfl) (by kernel_rfl) (by kernel_rfl) (fun _ _ _ h => h) ?yi_2_7 hHeld ?re_2_7
          case op_2_7 => (simp only [List.getElem?_toArray, List.getElem?_cons_succ, List.getElem?_cons_zero]; rfl)
          case yi_2_7 =>
            refine Or.inl ⟨by rfl, ?_⟩
            intro w hSw
            try dsimp only at hSw
            go_simp
            all_goals with_reducible rfl
          try simp only [Act.put, List.setIfInBounds_toArray, List.set_cons_zero, List.set_cons_succ]
          refine wpAnyH_take (i := 8) (oi := ?oq_2_8) (v := ?va_2_8) ?op_2_8 (by kernel_rfl) (by kernel_rfl) (by kernel_rfl) (fun _ _ _ h => h) ?yi_2_8 hHeld ?re_2_8
          case op_2_8 => (simp only [List.getElem?_toArray, List.getElem?_cons_succ, List.getElem?_cons_zero]; rfl)
          case yi_2_8 => exact (by
            refine yieldsIf_load_mid ?_ 34 (.tmp 2) ?_ m 0 ?_ cs _ ?_ Try.underlying34 ?_ (by rw [hlen]; exact msg_info)
            · rfl
            · rfl
            · rfl
            · intro w h
              have h : _ ∧ _ := h
              exact BlkAt.range h.1
            · rfl)
          try simp only [Act.put, List.setIfInBounds_toArray, List.set_cons_zero, List.set_cons_succ]
          refine wpAnyH_take (i := 9) (oi := ?oq_2_9) (v := ?va_2_9) ?op_2_9 (by kernel_rfl) (by kernel_rfl) (by kernel_rfl) (fun _ _ _ h => h) ?yi_2_9 hHeld ?re_2_9
          case op_2_9 => (simp only [List.getElem?_toArray, List.getElem?_cons_succ, List.getElem?_cons_zero]; rfl)
          case yi_2_9 => exact (by
            refine yieldsIf_load_mid ?_ 34 (.tmp 2) ?_ m 0 ?_ cs _ ?_ Try.underlying34 ?_ (by rw [hlen]; exact msg_info)
            · rfl
            · rfl
            · rfl
            · intro w h
              have h : _ ∧ _ := h
              exact BlkAt.range h.1
            · rfl)
          try simp only [Act.put, List.setIfInBounds_toArray, List.set_cons_zero, List.set_cons_succ]
          refine wpAnyH_ready (rs := [10]) (by kernel_rfl) (by simp) (AllReadyH.cons (o := ?oq_2_10) ?op_2_10 (fun K hK => ?re_2_10) AllReadyH.nil)
          case op_2_10 => (simp only [List.getElem?_toArray, List.getElem?_cons_succ, List.getElem?_cons_zero]; rfl)
          go_simp
          go_at_call 10
          refine (wsame_any (by exact hA) (by exact hA) hop hop).mono ?_
          rintro en z3 ⟨rfl, b9⟩
          rw [decide_eq_true (rfl : M = M)]
          have hMq := hM.below b9
          clear hM
          have hM := hMq
          clear hMq
          have hNq := hN.below b9
          clear hN
          have hN := hNq
          clear hNq
          have hAq := hA.below b9
          clear hA
          have hA := hAq
          clear hAq
          have hKAq := hKA.below b9
          clear hKA
          have hKA := hKAq
          clear hKAq
          have hbq := below_step hb b9
          clear hb
          have hb := hbq
          clear hbq b9
          refine hK.out _ _ (by exact ⟨hM, hN⟩) (fun hHeld => ?_)
          clear hK K
          try simp only [Act.put, List.setIfInBounds_toArray, List.set_cons_zero, List.set_cons_succ]
          refine wpAnyH_take (i := 11) (oi := ?oq_2_11) (v := ?va_2_11) ?op_2_11 (by kernel_rfl) (by kernel_rfl) (by kernel_rfl) (fun _ _ _ h => h) ?yi_2_11 hHeld ?re_2_11
          case op_2_11 => (simp only [List.getElem?_toArray, List.getElem?_cons_succ, List.getElem?_cons_zero]; rfl)
          case yi_2_11 =>
            refine Or.inl ⟨by rfl, ?_⟩
            intro w hSw
            try dsimp only at hSw
            go_simp
            all_goals with_reducible rfl
          try simp only [Act.put, List.setIfInBounds_toArray, List.set_cons_zero, List.set_cons_succ]
          refine wpAnyH_take (i := 12) (oi := ?oq_2_12) (v := ?va_2_12) ?op_2_12 (by kernel_rfl) (by kernel_rfl) (by kernel_rfl) (fun _ _ _ h => h) ?yi_2_12 hHeld ?re_2_12
          case op_2_12 => (simp only [List.getElem?_toArray, List.getElem?_cons_succ, List.getElem?_cons_zero]; rfl)
          case yi_2_12 =>
            refine Or.inl ⟨by rfl, ?_⟩
            intro w hSw
            try dsimp only at hSw
            go_simp
            all_goals with_reducible rfl
          try simp only [Act.put, List.setIfInBounds_toArray, List.set_cons_zero, List.set_cons_succ]
          refine wpAnyH_take (i := 13) (oi := ?oq_2_13) (v := ?va_2_13) ?op_2_13 (by kernel_rfl) (by kernel_rfl) (by kernel_rfl) (fun _ _ _ h => h) ?yi_2_13 hHeld ?re_2_13
          case op_2_13 => (simp only [List.getElem?_toArray, List.getElem?_cons_succ, List.getElem?_cons_zero]; rfl)
          case yi_2_13 =>
            refine Or.inl ⟨by rfl, ?_⟩
            intro w hSw
            try dsimp only at hSw
            go_simp
            all_goals with_reducible rfl
          try simp only [Act.put, List.setIfInBounds_toArray, List.set_cons_zero, List.set_cons_succ]
          refine wpAnyH_take (i := 14) (oi := ?oq_2_14) (v := ?va_2_14) ?op_2_14 (by kernel_rfl) (by kernel_rfl) (by kernel_rfl) (fun _ _ _ h => h) ?yi_2_14 hHeld ?re_2_14
          case op_2_14 => (simp only [List.getElem?_toArray, List.getElem?_cons_succ, List.getElem?_cons_zero]; rfl)
          case yi_2_14 =>
            refine Or.inl ⟨by rfl, ?_⟩
            intro w hSw
            try dsimp only at hSw
            go_simp
            all_goals with_reducible rfl
          try simp only [Act.put, List.setIfInBounds_toArray, List.set_cons_zero, List.set_cons_succ]
          refine wpAnyH_take (i := 15) (oi := ?oq_2_15) (v := ?va_2_15) ?op_2_15 (by kernel_rfl) (by kernel_rfl) (by kernel_rfl) (fun _ _ _ h => h) ?yi_2_15 hHeld ?re_2_15
          case op_2_15 => (simp only [List.getElem?_toArray, List.getElem?_cons_succ, List.getElem?_cons_zero]; rfl)
          case yi_2_15 =>
            refine Or.inl ⟨by rfl, ?_⟩
            intro w hSw
            try dsimp only at hSw
            go_simp
            all_goals with_reducible rfl
          try simp only [Act.put, List.setIfInBounds_toArray, List.set_cons_zero, List.set_cons_succ]
          refine wpAnyH_take (i := 16) (oi := ?oq_2_16) (v := ?va_2_16) ?op_2_16 (by kernel_rfl) (by kernel_rfl) (by kernel_rfl) (fun _ _ _ h => h) ?yi_2_16 hHeld ?re_2_16
          case op_2_16 => (simp only [List.getElem?_toArray, List.getElem?_cons_succ, List.getElem?_cons_zero]; rfl)
          case yi_2_16 =>
            refine Or.inl ⟨by rfl, ?_⟩
            intro w hSw
            try dsimp only at hSw
            go_simp
            all_goals with_reducible rfl
          try simp only [Act.put, List.setIfInBounds_toArray, List.set_cons_zero, List.set_cons_succ]
          refine wpAnyH_take (i := 17) (oi := ?oq_2_17) (v := ?va_2_17) ?op_2_17 (by kernel_rfl) (by kernel_rfl) (by kernel_rfl) (fun _ _ _ h => h) ?yi_2_17 hHeld ?re_2_17
          case op_2_17 => (simp only [List.getElem?_toArray, List.getElem?_cons_succ, List.getElem?_cons_zero]; rfl)
          case yi_2_17 =>
            refine Or.inl ⟨by rfl, ?_⟩
            intro w hSw
            try dsimp only at hSw
            go_simp
            all_goals with_reducible rfl
          try simp only [Act.put, List.setIfInBounds_toArray, List.set_cons_zero, List.set_cons_succ]
          refine wpAnyH_take (i := 18) (oi := ?oq_2_18) (v := ?va_2_18) ?op_2_18 (by kernel_rfl) (by kernel_rfl) (by kernel_rfl) (fun _ _ _ h => h) ?yi_2_18 hHeld ?re_2_18
          case op_2_18 => (simp only [List.getElem?_toArray, List.getElem?_cons_succ, List.getElem?_cons_zero]; rfl)
          case yi_2_18 =>
            refine Or.inl ⟨by rfl, ?_⟩
            intro w hSw
            try dsimp only at hSw
            go_simp
            all_goals with_reducible rfl
          try simp only [Act.put, List.setIfInBounds_toArray, List.set_cons_zero, List.set_cons_succ]
          refine wpAnyH_take (i := 19) (oi := ?oq_2_19) (v := ?va_2_19) ?op_2_19 (by kernel_rfl) (by kernel_rfl) (by kernel_rfl) (fun _ _ _ h => h) ?yi_2_19 hHeld ?re_2_19
          case op_2_19 => (simp only [List.getElem?_toArray, List.getElem?_cons_succ, List.getElem?_cons_zero]; rfl)
          case yi_2_19 =>
            refine Or.inl ⟨by rfl, ?_⟩
            intro w hSw
            try dsimp only at hSw
            go_simp
            all_goals with_reducible rfl
          try simp only [Act.put, List.setIfInBounds_toArray, List.set_cons_zero, List.set_cons_succ]
          refine wpAnyH_take (i := 20) (oi := ?oq_2_20) (v := undef) ?op_2_20 (by kernel_rfl) (by kernel_rfl) (by kernel_rfl) (fun _ _ _ h => h) ?yi_2_20 hHeld ?re_2_20
          case op_2_20 => (simp only [List.getElem?_toArray, List.getElem?_cons_succ, List.getElem?_cons_zero]; rfl)
          case yi_2_20 => exact Or.inr ⟨by rfl, rfl⟩
          try simp only [Act.put, List.setIfInBounds_toArray, List.set_cons_zero, List.set_cons_succ]
          refine wpAnyH_take (i := 21) (oi := ?oq_2_21) (v := undef) ?op_2_21 (by kernel_rfl) (by kernel_rfl) (by kernel_rfl) (fun _ _ _ h => h) ?yi_2_21 hHeld ?re_2_21
          case op_2_21 => (simp only [List.getElem?_toArray, List.getElem?_cons_succ, List.getElem?_cons_zero]; rfl)
          case yi_2_21 => exact Or.inr ⟨by rfl, rfl⟩
          try simp only [Act.put, List.setIfInBounds_toArray, List.set_cons_zero, List.set_cons_succ]
          refine wpAnyH_take (i := 22) (oi := ?oq_2_22) (v := undef) ?op_2_22 (by kernel_rfl) (by kernel_rfl) (by kernel_rfl) (fun _ _ _ h => h) ?yi_2_22 hHeld ?re_2_22
          case op_2_22 => (simp only [List.getElem?_toArray, List.getElem?_cons_succ, List.getElem?_cons_zero]; rfl)
          case yi_2_22 => exact Or.inr ⟨by rfl, rfl⟩
          try simp only [Act.put, List.setIfInBounds_toArray, List.set_cons_zero, List.set_cons_succ]
          refine wpAnyH_take (i := 23) (oi := ?oq_2_23) (v := undef) ?op_2_23 (by kernel_rfl) (by kernel_rfl) (by kernel_rfl) (fun _ _ _ h => h) ?yi_2_23 hHeld ?re_2_23
          case op_2_23 => (simp only [List.getElem?_toArray, List.getElem?_cons_succ, List.getElem?_cons_zero]; rfl)
          case yi_2_23 => exact Or.inr ⟨by rfl, rfl⟩
          try simp only [Act.put, List.setIfInBounds_toArray, List.set_cons_zero, List.set_cons_succ]
          refine wpAnyH_take (i := 24) (oi := ?oq_2_24) (v := undef) ?op_2_24 (by kernel_rfl) (by kernel_rfl) (by kernel_rfl) (fun _ _ _ h => h) ?yi_2_24 hHeld ?re_2_24
          case op_2_24 => (simp only [List.getElem?_toArray, List.getElem?_cons_succ, List.getElem?_cons_zero]; rfl)
          case yi_2_24 => exact Or.inr ⟨by rfl, rfl⟩
          try simp only [Act.put, List.setIfInBounds_toArray, List.set_cons_zero, List.set_cons_succ]
          refine wpAnyH_take (i := 25) (oi := ?oq_2_25) (v := undef) ?op_2_25 (by kernel_rfl) (by kernel_rfl) (by kernel_rfl) (fun _ _ _ h => h) ?yi_2_25 hHeld ?re_2_25
          case op_2_25 => (simp only [List.getElem?_toArray, List.getElem?_cons_succ, List.getElem?_cons_zero]; rfl)
          case yi_2_25 => exact Or.inr ⟨by rfl, rfl⟩
          try simp only [Act.put, List.setIfInBounds_toArray, List.set_cons_zero, List.set_cons_succ]
          refine wpAnyH_take (i := 26) (oi := ?oq_2_26) (v := undef) ?op_2_26 (by kernel_rfl) (by kernel_rfl) (by kernel_rfl) (fun _ _ _ h => h) ?yi_2_26 hHeld ?re_2_26
          case op_2_26 => (simp only [List.getElem?_toArray, List.getElem?_cons_succ, List.getElem?_cons_zero]; rfl)
          case yi_2_26 => exact Or.inr ⟨by rfl, rfl⟩
          try simp only [Act.put, List.setIfInBounds_toArray, List.set_cons_zero, List.set_cons_succ]
          refine wpAnyH_take (i := 27) (oi := ?oq_2_27) (v := ?va_2_27) ?op_2_27 (by kernel_rfl) (by kernel_rfl) (by kernel_rfl) (fun _ _ _ h => h) ?yi_2_27 hHeld ?re_2_27
          case op_2_27 => (simp only [List.getElem?_toArray, List.getElem?_cons_succ, List.getElem?_cons_zero]; rfl)
          case yi_2_27 =>
            refine Or.inl ⟨by rfl, ?_⟩
            intro w hSw
            try dsimp only at hSw
            go_simp
            all_goals with_reducible rfl
          try simp only [Act.put, List.setIfInBounds_toArray, List.set_cons_zero, List.set_cons_succ]
          refine wpAnyH_take (i := 28) (oi := ?oq_2_28) (v := ?va_2_28) ?op_2_28 (by kernel_rfl) (by kernel_rfl) (by kernel_rfl) (fun _ _ _ h => h) ?yi_2_28 hHeld ?re_2_28
          case op_2_28 => (simp only [List.getElem?_toArray, List.getElem?_cons_succ, List.getElem?_cons_zero]; rfl)
          case yi_2_28 =>
            refine Or.inl ⟨by rfl, ?_⟩
            intro w hSw
            try dsimp only at hSw
            go_simp
            all_goals with_reducible rfl
          try simp only [Act.put, List.setIfInBounds_toArray, List.set_cons_zero, List.set_cons_succ]
          refine wpAnyH_take (i := 29) (oi := ?oq_2_29) (v := ?va_2_29) ?op_2_29 (by kernel_rfl) (by kernel_rfl) (by kernel_rfl) (fun _ _ _ h => h) ?yi_2_29 hHeld ?re_2_29
          case op_2_29 => (simp only [List.getElem?_toArray, List.getElem?_cons_succ, List.getElem?_cons_zero]; rfl)
          case yi_2_29 =>
            refine Or.inl ⟨by rfl, ?_⟩
            intro w hSw
            try dsimp only at hSw
            go_simp
            all_goals with_reducible rfl
          try simp only [Act.put, List.setIfInBounds_toArray, List.set_cons_zero, List.set_cons_succ]
          refine wpAnyH_done (by kernel_rfl) ?_ _
          refine NoPanic.normal ?_
          go_wp2_with fail
          go_ret
          exact ⟨rfl, hb⟩
      · have hxz : (x != 0) = true := by simpa using hx
        refine wp_region_noPanic ?_
        refine wp_region_held_drew (S := (fun w' => BlkAt w' m 34 cs ∧ BlkAt w' n 34 ds)) (by kernel_rfl) (by exact ⟨hM, hN⟩) (fun hHeld => ?_)
        refine wpAnyH_take (i := 0) (oi := ?oq_3_0) (v := ?va_3_0) ?op_3_0 (by kernel_rfl) (by kernel_rfl) (by kernel_rfl) (fun _ _ _ h => h) ?yi_3_0 hHeld ?re_3_0
        case op_3_0 => (simp only [List.getElem?_toArray, List.getElem?_cons_zero]; rfl)
        case yi_3_0 => exact (by
          refine yieldsIf_load_mid ?_ 34 (.tmp 2) ?_ m 0 ?_ cs _ ?_ Try.underlying34 ?_ (by rw [hlen]; exact msg_info)
          · rfl
          · rfl
          · rfl
          · intro w h
            have h : _ ∧ _ := h
            exact BlkAt.range h.1
          · rfl)
        try simp only [Act.put, List.setIfInBounds_toArray, List.set_cons_zero, List.set_cons_succ]
        refine wpAnyH_take (i := 1) (oi := ?oq_3_1) (v := ?va_3_1) ?op_3_1 (by kernel_rfl) (by kernel_rfl) (by kernel_rfl) (fun _ _ _ h => h) ?yi_3_1 hHeld ?re_3_1
        case op_3_1 => (simp only [List.getElem?_toArray, List.getElem?_cons_succ, List.getElem?_cons_zero]; rfl)
        case yi_3_1 => exact (by
          refine yieldsIf_load_mid ?_ 34 (.tmp 3) ?_ n 0 ?_ ds _ ?_ Try.underlying34 ?_ (by rw [hlen2]; exact msg_info)
          · rfl
          · rfl
          · rfl
          · intro w h
            have h : _ ∧ _ := h
            exact BlkAt.range h.2
          · rfl)
        try simp only [Act.put, List.setIfInBounds_toArray, List.set_cons_zero, List.set_cons_succ]
        refine wpAnyH_take (i := 3) (oi := ?oq_3_3) (v := ?va_3_3) ?op_3_3 (by kernel_rfl) (by kernel_rfl) (by kernel_rfl) (fun _ _ _ h => h) ?yi_3_3 hHeld ?re_3_3
        case op_3_3 => (simp only [List.getElem?_toArray, List.getElem?_cons_succ, List.getElem?_cons_zero]; rfl)
        case yi_3_3 => exact (by
          refine yieldsIf_load_mid ?_ 34 (.tmp 2) ?_ m 0 ?_ cs _ ?_ Try.underlying34 ?_ (by rw [hlen]; exact msg_info)
          · rfl
          · rfl
          · rfl
          · intro w h
            have h : _ ∧ _ := h
            exact BlkAt.range h.1
          · rfl)
        try simp only [Act.put, List.setIfInBounds_toArray, List.set_cons_zero, List.set_cons_succ]
        refine wpAnyH_take (i := 4) (oi := ?oq_3_4) (v := ?va_3_4) ?op_3_4 (by kernel_rfl) (by kernel_rfl) (by kernel_rfl) (fun _ _ _ h => h) ?yi_3_4 hHeld ?re_3_4
        case op_3_4 => (simp only [List.getElem?_toArray, List.getElem?_cons_succ, List.getElem?_cons_zero]; rfl)
        case yi_3_4 => exact (by
          refine yieldsIf_load_mid ?_ 34 (.tmp 3) ?_ n 0 ?_ ds _ ?_ Try.underlying34 ?_ (by rw [hlen2]; exact msg_info)
          · rfl
          · rfl
          · rfl
          · intro w h
            have h : _ ∧ _ := h
            exact BlkAt.range h.2
          · rfl)
        try simp only [Act.put, List.setIfInBounds_toArray, List.set_cons_zero, List.set_cons_succ]
        refine wpAnyH_ready (rs := [2]) (by kernel_rfl) (by simp) (AllReadyH.cons (o := ?oq_3_2) ?op_3_2 (fun K hK => ?re_3_2) AllReadyH.nil)
        case op_3_2 => (simp only [List.getElem?_toArray, List.getElem?_cons_succ, List.getElem?_cons_zero]; rfl)
        go_simp
        go_at_call 10
        refine (wsame_any (by exact hA) (by exact hKA) hop hop2).mono ?_
        rintro en z1 ⟨rfl, b9⟩
        rw [← HQ.out]
        have hMq := hM.below b9
        clear hM
        have hM := hMq
        clear hMq
        have hNq := hN.below b9
        clear hN
        have hN := hNq
        clear hNq
        have hAq := hA.below b9
        clear hA
        have hA := hAq
        clear hAq
        have hKAq := hKA.below b9
        clear hKA
        have hKA := hKAq
        clear hKAq
        have hbq := below_step hb b9
        clear hb
        have hb := hbq
        clear hbq b9
        refine hK.out _ _ (by exact ⟨hM, hN⟩) (fun hHeld => ?_)
        clear hK K
        try simp only [Act.put, List.setIfInBounds_toArray, List.set_cons_zero, List.set_cons_succ]
        refine wpAnyH_ready (rs := [5]) (by kernel_rfl) (by simp) (AllReadyH.cons (o := ?oq_3_5) ?op_3_5 (fun K hK => ?re_3_5) AllReadyH.nil)
        case op_3_5 => (simp only [List.getElem?_toArray, List.getElem?_cons_succ, List.getElem?_cons_zero]; rfl)
        go_simp
        go_at_call 11
        refine (qwsame_any (by exact hA) (by exact hKA) hop hop2).mono ?_
        rintro en z2 ⟨rfl, b9⟩
        rw [← HQ.out]
        have hMq := hM.below b9
        clear hM
        have hM := hMq
        clear hMq
        have hNq := hN.below b9
        clear hN
        have hN := hNq
        clear hNq
        have hAq := hA.below b9
        clear hA
        have hA := hAq
        clear hAq
        have hKAq := hKA.below b9
        clear hKA
        have hKA := hKAq
        clear hKAq
        have hbq := below_step hb b9
        clear hb
        have hb := hbq
        clear hbq b9
        refine hK.out _ _ (by exact ⟨hM, hN⟩) (fun hHeld => ?_)
        clear hK K
        try simp only [Act.put, List.setIfInBounds_toArray, List.set_cons_zero, List.set_cons_succ]
        refine wpAnyH_take (i := 6) (oi := ?oq_3_6) (v := ?va_3_6) ?op_3_6 (by kernel_rfl) (by kernel_rfl) (by kernel_rfl) (fun _ _ _ h => h) ?yi_3_6 hHeld ?re_3_6
        case op_3_6 => (simp only [List.getElem?_toArray, List.getElem?_cons_succ, List.getElem?_cons_zero]; rfl)
        case yi_3_6 =>
          refine Or.inl ⟨by rfl, ?_⟩
          intro w hSw
          try dsimp only at hSw
          go_simp
          all_goals with_reducible rfl
        try simp only [Act.put, List.setIfInBounds_toArray, List.set_cons_zero, List.set_cons_succ]
        refine wpAnyH_take (i := 7) (oi := ?oq_3_7) (v := ?va_3_7) ?op_3_7 (by kernel_rfl) (by kernel_rfl) (by kernel_rfl) (fun _ _ _ h => h) ?yi_3_7 hHeld ?re_3_7
        case op_3_7 => (simp only [List.getElem?_toArray, List.getElem?_cons_succ, List.getElem?_cons_zero]; rfl)
        case yi_3_7 =>
          refine Or.inl ⟨by rfl, ?_⟩
          intro w hSw
          try dsimp only at hSw
          go_simp
          all_goals with_reducible rfl
        try simp only [Act.put, List.setIfInBounds_toArray, List.set_cons_zero, List.set_cons_succ]
        refine wpAnyH_take (i := 8) (oi := ?oq_3_8) (v := ?va_3_8) ?op_3_8 (by kernel_rfl) (by kernel_rfl) (by kernel_rfl) (fun _ _ _ h => h) ?yi_3_8 hHeld ?re_3_8
        case op_3_8 => (simp only [List.getElem?_toArray, List.getElem?_cons_succ, List.getElem?_cons_zero]; rfl)
        case yi_3_8 => exact (by
          refine yieldsIf_load_mid ?_ 34 (.tmp 2) ?_ m 0 ?_ cs _ ?_ Try.underlying34 ?_ (by rw [hlen]; exact msg_info)
          · rfl
          · rfl
          · rfl
          · intro w h
            have h : _ ∧ _ := h
            exact BlkAt.range h.1
          · rfl)
        try simp only [Act.put, List.setIfInBounds_toArray, List.set_cons_zero, List.set_cons_succ]
        refine wpAnyH_take (i := 9) (oi := ?oq_3_9) (v := ?va_3_9) ?op_3_9 (by kernel_rfl) (by kernel_rfl) (by kernel_rfl) (fun _ _ _ h => h) ?yi_3_9 hHeld ?re_3_9
        case op_3_9 => (simp only [List.getElem?_toArray, List.getElem?_cons_succ, List.getElem?_cons_zero]; rfl)
        case yi_3_9 => exact (by
          refine yieldsIf_load_mid ?_ 34 (.tmp 2) ?_ m 0 ?_ cs _ ?_ Try.underlying34 ?_ (by rw [hlen]; exact msg_info)
          · rfl
          · rfl
          · rfl
          · intro w h
            have h : _ ∧ _ := h
            exact BlkAt.range h.1
          · rfl)
        try simp only [Act.put, List.setIfInBounds_toArray, List.set_cons_zero, List.set_cons_succ]
        refine wpAnyH_ready (rs := [10]) (by kernel_rfl) (by simp) (AllReadyH.cons (o := ?oq_3_10) ?op_3_10 (fun K hK => ?re_3_10) AllReadyH.nil)
        case op_3_10 => (simp only [List.getElem?_toArray, List.getElem?_cons_succ, List.getElem?_cons_zero]; rfl)
        go_simp
        go_at_call 10
        refine (wsame_any (by exact hA) (by exact hA) hop hop).mono ?_
        rintro en z3 ⟨rfl, b9⟩
        rw [decide_eq_true (rfl : M = M)]
        have hMq := hM.below b9
        clear hM
        have hM := hMq
        clear hMq
        have hNq := hN.below b9
        clear hN
        have hN := hNq
        clear hNq
        have hAq := hA.below b9
        clear hA
        have hA := hAq
        clear hAq
        have hKAq := hKA.below b9
        clear hKA
        have hKA := hKAq
        clear hKAq
        have hbq := below_step hb b9
        clear hb
        have hb := hbq
        clear hbq b9
        refine hK.out _ _ (by exact ⟨hM, hN⟩) (fun hHeld => ?_)
        clear hK K
        try simp only [Act.put, List.setIfInBounds_toArray, List.set_cons_zero, List.set_cons_succ]
        refine wpAnyH_take (i := 11) (oi := ?oq_3_11) (v := ?va_3_11) ?op_3_11 (by kernel_rfl) (by kernel_rfl) (by kernel_rfl) (fun _ _ _ h => h) ?yi_3_11 hHeld ?re_3_11
        case op_3_11 => (simp only [List.getElem?_toArray, List.getElem?_cons_succ, List.getElem?_cons_zero]; rfl)
        case yi_3_11 =>
          refine Or.inl ⟨by rfl, ?_⟩
          intro w hSw
          try dsimp only at hSw
          go_simp
          all_goals with_reducible rfl
        try simp only [Act.put, List.setIfInBounds_toArray, List.set_cons_zero, List.set_cons_succ]
        refine wpAnyH_take (i := 12) (oi := ?oq_3_12) (v := ?va_3_12) ?op_3_12 (by kernel_rfl) (by kernel_rfl) (by kernel_rfl) (fun _ _ _ h => h) ?yi_3_12 hHeld ?re_3_12
        case op_3_12 => (simp only [List.getElem?_toArray, List.getElem?_cons_succ, List.getElem?_cons_zero]; rfl)
        case yi_3_12 =>
          refine Or.inl ⟨by rfl, ?_⟩
          intro w hSw
          try dsimp only at hSw
          go_simp
          all_goals with_reducible rfl
        try simp only [Act.put, List.setIfInBounds_toArray, List.set_cons_zero, List.set_cons_succ]
        refine wpAnyH_take (i := 13) (oi := ?oq_3_13) (v := ?va_3_13) ?op_3_13 (by kernel_rfl) (by kernel_rfl) (by kernel_rfl) (fun _ _ _ h => h) ?yi_3_13 hHeld ?re_3_13
        case op_3_13 => (simp only [List.getElem?_toArray, List.getElem?_cons_succ, List.getElem?_cons_zero]; rfl)
        case yi_3_13 =>
          refine Or.inl ⟨by rfl, ?_⟩
          intro w hSw
          try dsimp only at hSw
          go_simp
          all_goals with_reducible rfl
        try simp only [Act.put, List.setIfInBounds_toArray, List.set_cons_zero, List.set_cons_succ]
        refine wpAnyH_take (i := 14) (oi := ?oq_3_14) (v := ?va_3_14) ?op_3_14 (by kernel_rfl) (by kernel_rfl) (by kernel_rfl) (fun _ _ _ h => h) ?yi_3_14 hHeld ?re_3_14
        case op_3_14 => (simp only [List.getElem?_toArray, List.getElem?_cons_succ, List.getElem?_cons_zero]; rfl)
        case yi_3_14 =>
          refine Or.inl ⟨by rfl, ?_⟩
          intro w hSw
          try dsimp only at hSw
          go_simp
          all_goals with_reducible rfl
        try simp only [Act.put, List.setIfInBounds_toArray, List.set_cons_zero, List.set_cons_succ]
        refine wpAnyH_take (i := 15) (oi := ?oq_3_15) (v := ?va_3_15) ?op_3_15 (by kernel_rfl) (by kernel_rfl) (by kernel_rfl) (fun _ _ _ h => h) ?yi_3_15 hHeld ?re_3_15
        case op_3_15 => (simp only [List.getElem?_toArray, List.getElem?_cons_succ, List.getElem?_cons_zero]; rfl)
        case yi_3_15 =>
          refine Or.inl ⟨by rfl, ?_⟩
          intro w hSw
          try dsimp only at hSw
          go_simp
          all_goals with_reducible rfl
        try simp only [Act.put, List.setIfInBounds_toArray, List.set_cons_zero, List.set_cons_succ]
        refine wpAnyH_take (i := 16) (oi := ?oq_3_16) (v := undef) ?op_3_16 (by kernel_rfl) (by kernel_rfl) (by kernel_rfl) (fun _ _ _ h => h) ?yi_3_16 hHeld ?re_3_16
        case op_3_16 => (simp only [List.getElem?_toArray, List.getElem?_cons_succ, List.getElem?_cons_zero]; rfl)
        case yi_3_16 => exact Or.inr ⟨by rfl, rfl⟩
        try simp only [Act.put, List.setIfInBounds_toArray, List.set_cons_zero, List.set_cons_succ]
        refine wpAnyH_take (i := 17) (oi := ?oq_3_17) (v := undef) ?op_3_17 (by kernel_rfl) (by kernel_rfl) (by kernel_rfl) (fun _ _ _ h => h) ?yi_3_17 hHeld ?re_3_17
        case op_3_17 => (simp only [List.getElem?_toArray, List.getElem?_cons_succ, List.getElem?_cons_zero]; rfl)
        case yi_3_17 => exact Or.inr ⟨by rfl, rfl⟩
        try simp only [Act.put, List.setIfInBounds_toArray, List.set_cons_zero, List.set_cons_succ]
        refine wpAnyH_take (i := 18) (oi := ?oq_3_18) (v := ?va_3_18) ?op_3_18 (by kernel_rfl) (by kernel_rfl) (by kernel_rfl) (fun _ _ _ h => h) ?yi_3_18 hHeld ?re_3_18
        case op_3_18 => (simp only [List.getElem?_toArray, List.getElem?_cons_succ, List.getElem?_cons_zero]; rfl)
        case yi_3_18 =>
          refine Or.inl ⟨by rfl, ?_⟩
          intro w hSw
          try dsimp only at hSw
          go_simp
          all_goals with_reducible rfl
        try simp only [Act.put, List.setIfInBounds_toArray, List.set_cons_zero, List.set_cons_succ]
        refine wpAnyH_take (i := 19) (oi := ?oq_3_19) (v := ?va_3_19) ?op_3_19 (by kernel_rfl) (by kernel_rfl) (by kernel_rfl) (fun _ _ _ h => h) ?yi_3_19 hHeld ?re_3_19
        case op_3_19 => (simp only [List.getElem?_toArray, List.getElem?_cons_succ, List.getElem?_cons_zero]; rfl)
        case yi_3_19 =>
          refine Or.inl ⟨by rfl, ?_⟩
          intro w hSw
          try dsimp only at hSw
          go_simp
          all_goals with_reducible rfl
        try simp only [Act.put, List.setIfInBounds_toArray, List.set_cons_zero, List.set_cons_succ]
        refine wpAnyH_take (i := 20) (oi := ?oq_3_20) (v := undef) ?op_3_20 (by kernel_rfl) (by kernel_rfl) (by kernel_rfl) (fun _ _ _ h => h) ?yi_3_20 hHeld ?re_3_20
        case op_3_20 => (simp only [List.getElem?_toArray, List.getElem?_cons_succ, List.getElem?_cons_zero]; rfl)
        case yi_3_20 => exact Or.inr ⟨by rfl, rfl⟩
        try simp only [Act.put, List.setIfInBounds_toArray, List.set_cons_zero, List.set_cons_succ]
        refine wpAnyH_take (i := 21) (oi := ?oq_3_21) (v := undef) ?op_3_21 (by kernel_rfl) (by kernel_rfl) (by kernel_rfl) (fun _ _ _ h => h) ?yi_3_21 hHeld ?re_3_21
        case op_3_21 => (simp only [List.getElem?_toArray, List.getElem?_cons_succ, List.getElem?_cons_zero]; rfl)
        case yi_3_21 => exact Or.inr ⟨by rfl, rfl⟩
        try simp only [Act.put, List.setIfInBounds_toArray, List.set_cons_zero, List.set_cons_succ]
        refine wpAnyH_take (i := 22) (oi := ?oq_3_22) (v := undef) ?op_3_22 (by kernel_rfl) (by kernel_rfl) (by kernel_rfl) (fun _ _ _ h => h) ?yi_3_22 hHeld ?re_3_22
        case op_3_22 => (simp only [List.getElem?_toArray, List.getElem?_cons_succ, List.getElem?_cons_zero]; rfl)
        case yi_3_22 => exact Or.inr ⟨by rfl, rfl⟩
        try simp only [Act.put, List.setIfInBounds_toArray, List.set_cons_zero, List.set_cons_succ]
        refine wpAnyH_take (i := 23) (oi := ?oq_3_23) (v := undef) ?op_3_23 (by kernel_rfl) (by kernel_rfl) (by kernel_rfl) (fun _ _ _ h => h) ?yi_3_23 hHeld ?re_3_23
        case op_3_23 => (simp only [List.getElem?_toArray, List.getElem?_cons_succ, List.getElem?_cons_zero]; rfl)
        case yi_3_23 => exact Or.inr ⟨by rfl, rfl⟩
        try simp only [Act.put, List.setIfInBounds_toArray, List.set_cons_zero, List.set_cons_succ]
        refine wpAnyH_take (i := 24) (oi := ?oq_3_24) (v := undef) ?op_3_24 (by kernel_rfl) (by kernel_rfl) (by kernel_rfl) (fun _ _ _ h => h) ?yi_3_24 hHeld ?re_3_24
        case op_3_24 => (simp only [List.getElem?_toArray, List.getElem?_cons_succ, List.getElem?_cons_zero]; rfl)
        case yi_3_24 => exact Or.inr ⟨by rfl, rfl⟩
        try simp only [Act.put, List.setIfInBounds_toArray, List.set_cons_zero, List.set_cons_succ]
        refine wpAnyH_take (i := 25) (oi := ?oq_3_25) (v := undef) ?op_3_25 (by kernel_rfl) (by kernel_rfl) (by kernel_rfl) (fun _ _ _ h => h) ?yi_3_25 hHeld ?re_3_25
        case op_3_25 => (simp only [List.getElem?_toArray, List.getElem?_cons_succ, List.getElem?_cons_zero]; rfl)
        case yi_3_25 => exact Or.inr ⟨by rfl, rfl⟩
        try simp only [Act.put, List.setIfInBounds_toArray, List.set_cons_zero, List.set_cons_succ]
        refine wpAnyH_take (i := 26) (oi := ?oq_3_26) (v := undef) ?op_3_26 (by kernel_rfl) (by kernel_rfl) (by kernel_rfl) (fun _ _ _ h => h) ?yi_3_26 hHeld ?re_3_26
        case op_3_26 => (simp only [List.getElem?_toArray, List.getElem?_cons_succ, List.getElem?_cons_zero]; rfl)
        case yi_3_26 => exact Or.inr ⟨by rfl, rfl⟩
        try simp only [Act.put, List.setIfInBounds_toArray, List.set_cons_zero, List.set_cons_succ]
        refine wpAnyH_take (i := 27) (oi := ?oq_3_27) (v := ?va_3_27) ?op_3_27 (by kernel_rfl) (by kernel_rfl) (by kernel_rfl) (fun _ _ _ h => h) ?yi_3_27 hHeld ?re_3_27
        case op_3_27 => (simp only [List.getElem?_toArray, List.getElem?_cons_succ, List.getElem?_cons_zero]; rfl)
        case yi_3_27 =>
          refine Or.inl ⟨by rfl, ?_⟩
          intro w hSw
          try dsimp only at hSw
          go_simp
          all_goals with_reducible rfl
        try simp only [Act.put, List.setIfInBounds_toArray, List.set_cons_zero, List.set_cons_succ]
        refine wpAnyH_take (i := 28) (oi := ?oq_3_28) (v := ?va_3_28) ?op_3_28 (by kernel_rfl) (by kernel_rfl) (by kernel_rfl) (fun _ _ _ h => h) ?yi_3_28 hHeld ?re_3_28
        case op_3_28 => (simp only [List.getElem?_toArray, List.getElem?_cons_succ, List.getElem?_cons_zero]; rfl)
        case yi_3_28 =>
          refine Or.inl ⟨by rfl, ?_⟩
          intro w hSw
          try dsimp only at hSw
          go_simp
          all_goals with_reducible rfl
        try simp only [Act.put, List.setIfInBounds_toArray, List.set_cons_zero, List.set_cons_succ]
        refine wpAnyH_take (i := 29) (oi := ?oq_3_29) (v := ?va_3_29) ?op_3_29 (by kernel_rfl) (by kernel_rfl) (by kernel_rfl) (fun _ _ _ h => h) ?yi_3_29 hHeld ?re_3_29
        case op_3_29 => (simp only [List.getElem?_toArray, List.getElem?_cons_succ, List.getElem?_cons_zero]; rfl)
        case yi_3_29 =>
          refine Or.inl ⟨by rfl, ?_⟩
          intro w hSw
          try dsimp only at hSw
          go_simp
          all_goals with_reducible rfl
        try simp only [Act.put, List.setIfInBounds_toArray, List.set_cons_zero, List.set_cons_succ]
        refine wpAnyH_done (by kernel_rfl) ?_ _
        refine NoPanic.normal ?_
        go_wp2_with fail
        go_ret
        exact ⟨rfl, hb⟩
set_option maxRecDepth 100000 in
theorem WireSame_walk {H : Type} {enc : TypeId × Value → H} {base : Nat} {d d2 : DataW H} {p p2 : List MemPlace} (v u : Value) (w : World) (hv : Value.okWide Try.prog w .any base 34 v) (ht : DataW.Trod enc Try.prog w 0 (fun _ => true) true 34 v d p)
    (hu : Value.okWide Try.prog w .any base 34 u) (ht2 : DataW.Trod enc Try.prog w 0 (fun _ => true) true 34 u d2 p2) :
    Calls Try.prog 4 #[v, u] w fun e w' => e = .returned (.bool true) ∧ Below w.heap.size w w' := by
  obtain ⟨M, hok, hA⟩ := open_msg hv ht
  obtain ⟨K, hok2, hKA⟩ := open_msg hu ht2
  exact WireSame_go hA hok hKA hok2


set_option maxRecDepth 100000 in
theorem WireSame_calls (H : Type) (enc : TypeId × Value → H) (W : World) (base : Nat) (args : Array Value) (ds gs : List (DataW H)) (before : List MemPlace)
    (hval : ∀ (j : Nat) t v, Try.f4.params[j]? = some t → args[j]? = some v → Value.okWide Try.prog W .any base t v)
    (hW : DataW.Whole enc Try.prog Try.f4.params.toList Rows.wireSameSpec.vars false W args.toList ds gs before) :
    Calls Try.prog 4 args W fun e W' => e = .returned (.bool true) ∧ Below W.heap.size W W' := by
  obtain ⟨p, q, hA, hV, rfl, hfz, hnd⟩ := hW
  rw [Try.params4] at hA hval
  obtain ⟨v0, vs0, d0, ds0, p0, q0, hargs, rfl, rfl, h0, r0⟩ := trodAll_cons hA
  obtain ⟨v1, vs1, d1, ds1, p1, q1, rfl, rfl, rfl, h1, r1⟩ := trodAll_cons r0
  obtain ⟨rfl, rfl, rfl⟩ := trodAll_nil r1
  obtain rfl : args = #[v0, v1] := Array.toList_inj.1 hargs

  exact WireSame_walk v0 v1 W (hval 0 34 v0 rfl rfl) h0 (hval 1 34 v1 rfl rfl) h1

set_option maxRecDepth 100000 in
theorem WireSame_lifted (os : Os) (started : os.Started) (H : Type) (enc : TypeId × Value → H) :
    ReturnsInHanded {} Try.checked os 4 .any (Rows.wireSameSpec.pre6 enc Try.prog Try.f4 Rows.wireSameRow.domain false) (Rows.wireSameSpec.post enc Try.prog Try.f4 false true false false) := by
  refine returnsInHanded_of_change (C := Try.checked) own started (by kernel_rfl) Try.func4
    (ChangeSpec.witness6 (enc := enc) (C := Try.checked) false ⟨#[], #[.agg #[.int .i64 0, .int .i64 0, .int .i64 0, .int .i64 0, .int .i64 0, .int .i64 0, .int .i64 0, .int .i64 0, .int .i64 0, .int .i64 0, .bool false, .int .i64 0, .int .i64 0, .int .i64 0, .int .i64 0, .int .i64 0, .int .i64 0, .int .i64 0, .int .i64 0, .int .i64 0, .string ByteArray.empty, .int .i64 0, .int .i64 0, .int .i64 0, .int .i64 0, .slice none 0 0, .slice none 0 0, .int .i64 0], .agg #[.int .i64 0, .int .i64 0, .int .i64 0, .int .i64 0, .int .i64 0, .int .i64 0, .int .i64 0, .int .i64 0, .int .i64 0, .int .i64 0, .bool false, .int .i64 0, .int .i64 0, .int .i64 0, .int .i64 0, .int .i64 0, .int .i64 0, .int .i64 0, .int .i64 0, .int .i64 0, .string ByteArray.empty, .int .i64 0, .int .i64 0, .int .i64 0, .int .i64 0, .slice none 0 0, .slice none 0 0, .int .i64 0]], []⟩ 8 (by kernel_rfl) (by kernel_rfl) (by kernel_rfl) (by kernel_rfl)) ?_
  intro W base args ds gs before hval0 hW hcnd _
  have hval : ∀ (j : Nat) t v, Try.f4.params[j]? = some t → args[j]? = some v → Value.okWide Try.prog W .any base t v := hval0
  refine (WireSame_calls H enc W base args ds gs before hval hW).mono fun e W' ⟨he, bel⟩ => ?_
  exact ⟨_, he, law_post (ts := [34, 34]) (by rw [Try.params4]) (by intro t ht; simp only [List.mem_cons, List.not_mem_nil, or_false] at ht; rcases ht with rfl | rfl <;> exact ⟨by kernel_rfl, of_decide_eq_true (by kernel_rfl)⟩) hW rfl
    (fun ds h => by match ds, h with | [_, _], _ => rfl) (by kernel_rfl) bel⟩

theorem WireSame_over : Rows.wireSameRow.holds Try.pinned (OpenSpec.ofChange Rows.wireSameSpec) :=
  OpenClaim.holds_of_wide 4 Try.f4 rfl rfl rfl rfl rfl rfl rfl ⟨rfl, rfl, rfl, rfl, rfl⟩ rfl rfl rfl rfl rfl (by kernel_rfl) Try.func4 (by kernel_rfl)
    (of_decide_eq_true (by kernel_rfl)) (by unfold Func.isWrapper; first | (rw [if_pos (by decide +kernel)]; kernel_rfl) | (rw [if_neg (by decide +kernel)]; exact ⟨rfl, rfl⟩))
    (fun os started H enc _ => WireSame_lifted os started H enc)

/-- The statement. -/
theorem WireSame_proved : Rows.WireSameSaid := WireSame_over

end Go.Proofs.Ytagmlgeoefemfaa
