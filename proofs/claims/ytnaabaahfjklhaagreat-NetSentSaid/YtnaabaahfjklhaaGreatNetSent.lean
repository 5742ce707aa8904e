/- NetSent: for every script the law answers true. No condition. -/
import Derived.Test.YtnaabaahfjklhaaGreatNetOrder
import Derived.Test.YtnaabaahfjklhaaGreatNetScript
namespace Go.Proofs.YtnaabaahfjklhaaGreat
open Go.RowKit Go.ChangeShapes Go.WideShapes Go.Joins Go.Deep
set_option linter.unusedVariables false

theorem flat_take {css : List (List Value)} (h : ∀ cs ∈ css, cs.length = 28) (q : Nat) : (css.take q).flatten = css.flatten.take (q * 28) ∧ (css.drop q).flatten = css.flatten.drop (q * 28) := by
  induction css generalizing q with
  | nil => simp
  | cons c css ih =>
    have hc := h c (by simp)
    cases q with
    | zero => simp
    | succ q =>
      obtain ⟨h1, h2⟩ := ih (fun x hx => h x (by simp [hx])) q
      have e : (q + 1) * 28 = c.length + q * 28 := by rw [hc]; omega
      rw [List.take_succ_cons, List.drop_succ_cons, List.flatten_cons, List.flatten_cons, h1, h2, e]
      refine ⟨?_, ?_⟩
      · rw [List.take_append]
        simp
        exact (List.take_of_length_le (by omega)).symm
      · rw [List.drop_append]
        simp
theorem MsgsO.erase {B : Nat} {w0 w' : World} {v' : Value} {Ms : List MsgV} {css : List (List Value)} {q : Nat} (h1 : css.length = Ms.length) (h3 : ∀ (i : Nat) (M : MsgV) (cs : List Value), Ms[i]? = some M → css[i]? = some cs → CellsOf w0 cs M)
    (h28 : ∀ cs ∈ css, cs.length = 28) (hq : q < Ms.length) (h2 : w'.ownsRow B 40 28 v' (Ms.length - 1) (css.flatten.take (q * 28) ++ css.flatten.drop ((q + 1) * 28))) : MsgsO B w0 w' v' (Ms.eraseIdx q) := by
  have hf : (css.eraseIdx q).flatten = css.flatten.take (q * 28) ++ css.flatten.drop ((q + 1) * 28) := by
    rw [List.eraseIdx_eq_take_drop_succ, List.flatten_append, (flat_take h28 q).1, (flat_take h28 (q + 1)).2]
  refine ⟨css.eraseIdx q, by rw [List.length_eraseIdx, List.length_eraseIdx, h1], ?_, fun i K ds hi hd => ?_⟩
  · rw [hf, List.length_eraseIdx, if_pos hq]
    exact h2
  · rw [List.getElem?_eraseIdx] at hi hd
    split at hi
    · rename_i h
      rw [if_pos h] at hd
      exact h3 _ _ _ hi hd
    · rename_i h
      rw [if_neg h] at hd
      exact h3 _ _ _ hi hd
theorem perm_cons_erase {L : List MsgV} {k : Nat} {M : MsgV} (hk : L[k]? = some M) : L.Perm (M :: L.eraseIdx k) := by
  obtain ⟨hkl, hj⟩ := List.getElem?_eq_some_iff.1 hk
  have h1 : L = L.take k ++ M :: L.drop (k + 1) := by
    rw [← hj, ← List.drop_eq_getElem_cons hkl, List.take_append_drop]
  rw [List.eraseIdx_eq_take_drop_succ]
  conv => lhs; rw [h1]
  exact List.perm_middle

set_option maxRecDepth 100000 in
set_option maxHeartbeats 8000000 in

theorem NetSent_go {w : World} {a : Option Addr} {cap : Nat} {S : List NOpV} (hS0 : NOpsAt w a S) :
    Calls Tryz.prog 3 #[.slice a S.length cap] w fun e w' => e = .returned (.bool true) ∧ Below w.heap.size w w' := by
  obtain ⟨i0, hi0, hz0, hz1, hz2⟩ := info_parts msg_full
  have hml := hS0.1
  unfold maxLen at hml
  have HMS := Lib.hid hS0
  go_enter Tryz.func3, Tryz.ntmps3
  go_wp2_with fail
  refine (awake_net _).mono ?_
  rintro en w1 ⟨rfl, hb⟩
  have hS1 : NOpsAt w1 a S := ⟨hS0.1, hS0.2.1, fun hp => by
    obtain ⟨b, off, ha, hlt, hc⟩ := hS0.2.2 hp
    refine ⟨b, off, ha, Nat.lt_of_lt_of_le hlt hb.size, fun i o hi => ?_⟩
    obtain ⟨cs, h1, h2⟩ := hc i o hi
    exact ⟨cs, h1.below hb, fun j u hj => (hb.cell (p := ⟨b, _, none⟩) hlt).trans (h2 j u hj)⟩⟩
  clear hS0
  go_wp2_with fail
  refine (nlong_any (by exact hS1)).mono ?_
  rintro en w1' ⟨qq, rfl, b1, hsm⟩
  have hbq := below_step hb b1
  clear hb b1 hS1
  have hb := hbq
  clear hbq
  cases qq with
  | true =>
    go_wp2_with fail
    refine (awake_net _).mono ?_
    rintro en w2 ⟨rfl, b2⟩
    have hb2 := below_step hb b2
    go_wp2_with fail
    go_ret
    exact ⟨rfl, hb2⟩
  | false =>
    obtain ⟨hl300, hfw⟩ := hsm rfl
    clear hsm
    have HFW := Lib.hid hfw
    clear hfw
    go_wp2_with fail
    refine (nnew_any _).mono ?_
    rintro en w2 ⟨b, rfl, hN, b2⟩
    have hbw : w.heap.size ≤ b := Nat.le_trans hb.size hN.1
    have hB : w.heap.size ≤ w1'.heap.size := hb.size
    have hbq := below_step hb b2
    clear hb b2
    have hb := hbq
    clear hbq
    generalize w1'.heap.size = B at *
    go_wp2_with fail
    go_loopw [4, 21] (fun s i wr => ∃ (k : Nat) (v sv : Value) (Ls Ss : List MsgV) (sN tN : Int), k ≤ S.length ∧ Ls.length ≤ k ∧ (0 ≤ sN ∧ sN ≤ k) ∧ (0 ≤ tN ∧ tN ≤ k) ∧ i = .int .i64 k ∧ sv = s ∧ NetAt B wr b v Ls sN tN ∧ MsgsO B w wr sv Ss ∧ Hid (Ls.Perm Ss) ∧ Below w.heap.size w wr) (fun _ i _ => S.length - (intOf i).toNat)
    case atStart => exact ⟨0, _, _, [], [], 0, 0, Nat.zero_le _, Nat.le_refl _, ⟨by decide, by decide⟩, ⟨by decide, by decide⟩, rfl, rfl, hN, MsgsO.nil _ _ _, Lib.hid (List.Perm.refl _), hb⟩
    case round =>
      obtain ⟨k, v, sv, Ls, Ss, sN, tN, hk, hLk, hsN, htN, rfl, rfl, hNr, hSr, HP, hbr⟩ := hrel
      clear hN hb
      have hN := hNr
      have hS := hSr
      have hb := hbr
      clear hNr hSr hbr
      obtain ⟨SA, Scap, rfl⟩ := hS.form
      have hSl300 : Ss.length ≤ 300 := by rw [← HP.out.length_eq]; omega
      have hv : ∀ j, v.ownBlock = some j → w.heap.size ≤ j := fun j hj => Nat.le_trans hB (hN.row j hj).1
      by_cases hlt : k < S.length
      · have hlt' : (k : Int) < (S.length : Int) := by omega
        obtain ⟨o, ho⟩ : ∃ o, S[k]? = some o := ⟨_, List.getElem?_eq_getElem hlt⟩
        have hok := HMS.out.2.1 o (List.mem_of_getElem? ho)
        have hfew := fewM_iff.1 (HFW.out o (List.mem_of_getElem? ho))
        obtain ⟨F, off, rfl, hFl, hc⟩ := HMS.out.2.2 (by omega)
        obtain ⟨cs, hC, hcell⟩ := hc k o ho
        obtain ⟨kd, nn, M⟩ := o
        have hokm : MOk M := hok.m
        have hwn : W64 nn := hok.n
        simp only at hfew hC
        have hcl := hC.1
        have hcone := hC.2.1
        obtain ⟨ds, hds⟩ : ∃ ds, ds = nopCells ⟨kd, nn, M⟩ cs := ⟨_, rfl⟩
        have hdl : ds.length = 30 := by rw [hds]; simp [nopCells, hcl]
        have hdone : ds.toArray.all (·.oneCell') = true := by
          have h1 := hcone
          rw [hds]
          simpa [nopCells, Value.oneCell', Array.all_eq_true_iff_forall_mem] using h1
        have hrg : wr.rangeAt F (off + k * 30) ds := fun j u hj => (hb.cell (p := ⟨F, _, none⟩) hFl).trans (hcell j u (by rw [← hds]; exact hj))
        have HC0 := Lib.hid hC
        clear hc hcell ho hok
        have hBw : B ≤ wr.heap.size := by have := hN.lt; have := hN.1; omega
        have hX := BlkAt.new wr 42 [.int .i64 0, .int .i64 0, .int .i64 0, .int .i64 0, .int .i64 0, .int .i64 0, .int .i64 0, .int .i64 0, .int .i64 0, .int .i64 0, .int .i64 0, .int .i64 0, .bool false, .int .i64 0, .int .i64 0, .int .i64 0, .int .i64 0, .int .i64 0, .int .i64 0, .int .i64 0, .int .i64 0, .int .i64 0, .string ⟨#[]⟩, .int .i64 0, .int .i64 0, .int .i64 0, .int .i64 0, .slice none 0 0, .slice none 0 0, .int .i64 0]
        have HL1 := Lib.hid (show ds.length = ([.int .i64 0, .int .i64 0, .int .i64 0, .int .i64 0, .int .i64 0, .int .i64 0, .int .i64 0, .int .i64 0, .int .i64 0, .int .i64 0, .int .i64 0, .int .i64 0, .bool false, .int .i64 0, .int .i64 0, .int .i64 0, .int .i64 0, .int .i64 0, .int .i64 0, .int .i64 0, .int .i64 0, .int .i64 0, .string ⟨#[]⟩, .int .i64 0, .int .i64 0, .int .i64 0, .int .i64 0, .slice none 0 0, .slice none 0 0, .int .i64 0] : List Value).length by rw [hdl]; rfl)
        have b4 := (Below.refl wr.heap.size wr).alloc (Nat.le_refl _) (.cells #[.int .i64 0, .int .i64 0, .int .i64 0, .int .i64 0, .int .i64 0, .int .i64 0, .int .i64 0, .int .i64 0, .int .i64 0, .int .i64 0, .int .i64 0, .int .i64 0, .bool false, .int .i64 0, .int .i64 0, .int .i64 0, .int .i64 0, .int .i64 0, .int .i64 0, .int .i64 0, .int .i64 0, .int .i64 0, .string ⟨#[]⟩, .int .i64 0, .int .i64 0, .int .i64 0, .int .i64 0, .slice none 0 0, .slice none 0 0, .int .i64 0] 42)
        have G4 := grown_setCells wr.heap.size ds 0 (wr.alloc (.cells #[.int .i64 0, .int .i64 0, .int .i64 0, .int .i64 0, .int .i64 0, .int .i64 0, .int .i64 0, .int .i64 0, .int .i64 0, .int .i64 0, .int .i64 0, .int .i64 0, .bool false, .int .i64 0, .int .i64 0, .int .i64 0, .int .i64 0, .int .i64 0, .int .i64 0, .int .i64 0, .int .i64 0, .int .i64 0, .string ⟨#[]⟩, .int .i64 0, .int .i64 0, .int .i64 0, .int .i64 0, .slice none 0 0, .slice none 0 0, .int .i64 0] 42))
        have b5 := b4.grown G4 b4.size (by intro j hj; cases hj; exact Nat.le_refl _)
        have hMn := hX.stored (vs := ds) HL1.out
        have HT := Lib.hid (blk_there2 hX HL1.out)
        have hNn := hN.below b5
        clear hN
        have hN := hNn
        clear hNn
        have hSn := hS.below b5
        clear hS
        have hS := hSn
        clear hSn
        have hbn := below_step hb b5
        clear hb
        have hb := hbn
        clear hbn
        clear hX b4 G4 b5 HL1
        go_upto_region 8 with (first | (refine wpList_store_mid rfl 42 (.tmp 6) (.tmp 24) rfl wr.heap.size 0 ds.toArray rfl rfl (by exact HT.out) (by rw [List.size_toArray, hdl]; exact nop_info) hdone ?_; rw [List.toList_toArray]) | (refine wpList_load_mid rfl 42 (.tmp 23) rfl F (off + k * 30) rfl ds _ hrg Tryz.underlying42 rfl (by rw [hdl]; exact nop_info) ?_; simp only [Act.put, List.setIfInBounds_toArray, List.set_cons_zero, List.set_cons_succ]))
        change Code.wp _ _ _ _ ((wr.alloc (.cells #[.int .i64 0, .int .i64 0, .int .i64 0, .int .i64 0, .int .i64 0, .int .i64 0, .int .i64 0, .int .i64 0, .int .i64 0, .int .i64 0, .int .i64 0, .int .i64 0, .bool false, .int .i64 0, .int .i64 0, .int .i64 0, .int .i64 0, .int .i64 0, .int .i64 0, .int .i64 0, .int .i64 0, .int .i64 0, .string ⟨#[]⟩, .int .i64 0, .int .i64 0, .int .i64 0, .int .i64 0, .slice none 0 0, .slice none 0 0, .int .i64 0] 42)).setCells wr.heap.size 0 ds)
        generalize (wr.alloc (.cells #[.int .i64 0, .int .i64 0, .int .i64 0, .int .i64 0, .int .i64 0, .int .i64 0, .int .i64 0, .int .i64 0, .int .i64 0, .int .i64 0, .int .i64 0, .int .i64 0, .bool false, .int .i64 0, .int .i64 0, .int .i64 0, .int .i64 0, .int .i64 0, .int .i64 0, .int .i64 0, .int .i64 0, .int .i64 0, .string ⟨#[]⟩, .int .i64 0, .int .i64 0, .int .i64 0, .int .i64 0, .slice none 0 0, .slice none 0 0, .int .i64 0] 42)).setCells wr.heap.size 0 ds = W1 at *
        have hM := hMn
        clear hMn HT
        obtain ⟨m, hLL⟩ : ∃ q, q = wr.heap.size := ⟨_, rfl⟩
        rw [← hLL] at hM ⊢
        have HEm := Lib.hid hLL
        clear hLL
        clear hrg hdone
        have hmB : B ≤ m := by rw [HEm.out]; exact hBw
        have hA : M.At W1 (.agg cs.toArray) := hC.2.2.below hb
        have hrm : W1.rangeAt m 2 cs := fun j u hj => hM.cell (i := 2 + j) (by rw [hds, Nat.add_comm]; exact hj)
        have c0 : W1.cell? ⟨m, 0, none⟩ = some (.int .i64 kd) := hM.cell (by rw [hds]; rfl)
        have c1 : W1.cell? ⟨m, 1, none⟩ = some (.int .i64 nn) := hM.cell (by rw [hds]; rfl)
        obtain ⟨css, hS1, hS2, hS3⟩ := hS
        have hsb : some b ≠ (Value.slice SA Ss.length Scap).ownBlock := own_apartN hN.2.1 hS2 (by decide)
        have hsv := own_two hS2 hN.2.2.1 (by decide)
        have hmb : m ≠ b := fun e => by
          have h1 : W1.heap[m]? = _ := hM
          rw [e, hN.2.1] at h1
          simp at h1
        have hmv : some m ≠ v.ownBlock := own_apartN (b := m) (T := 42) (cs := ds.toArray) (fr := (0, 0)) (by exact hM) hN.2.2.1 (by decide)
        clear hC hds
        by_cases k1 : kd = 1
        · have b1 : (kd == 1) = true := by simpa using k1
          clear k1
          rcases sendN_cases Ls hokm with ⟨x, hx, hse⟩ | ⟨hG, hse⟩
          · have hxb : (x == 0) = false := by simpa using hx
            have HSE := Lib.hid hse
            clear hse
            go_wp2_with (refine wpList_load_mid rfl 40 (.tmp 30) rfl m 2 rfl cs _ hrm Tryz.underlying40 rfl (by rw [hcl]; exact msg_info) ?_; simp only [Act.put, List.setIfInBounds_toArray, List.set_cons_zero, List.set_cons_succ])
            refine (nsend_any (by exact hN) (by omega) (by exact hA) hokm (by omega) (by omega) HSE.out).mono ?_
            rintro en w4 ⟨rfl, v4, hN4, hk4, hr4⟩
            rw [sent_not hx] at hN4
            have HN := Lib.hid hN4
            have HS := Lib.hid (show MsgsO B w w4 (.slice SA Ss.length Scap) Ss from ⟨css, hS1, own_nkept hS2 hk4 hsb hsv, hS3⟩)
            have HB := Lib.hid (hk4.below hb hbw hv)
            clear hN hS2 hA hM hb hN4 hk4 hr4 hv hsb hsv hmb hmv c0 c1 hrm
            go_wp2_with fail
            go_roundw
            case rel => exact ⟨k + 1, v4, _, Ls, Ss, sN, tN, by omega, by omega, by omega, by omega, by go_num, rfl, HN.out, HS.out, HP, HB.out⟩
            case measure => simp [intOf]; omega
          · have HSE := Lib.hid hse
            clear hse
            go_wp2_with (refine wpList_load_mid rfl 40 (.tmp 30) rfl m 2 rfl cs _ hrm Tryz.underlying40 rfl (by rw [hcl]; exact msg_info) ?_; simp only [Act.put, List.setIfInBounds_toArray, List.set_cons_zero, List.set_cons_succ])
            refine (nsend_any (by exact hN) (by omega) (by exact hA) hokm (by omega) (by omega) HSE.out).mono ?_
            rintro en w4 ⟨rfl, v4, hN4, hk4, hr4⟩
            rw [sent_yes] at hN4
            have hb4 := hk4.below hb hbw hv
            have hS4 := own_nkept hS2 hk4 hsb hsv
            have hM4 := blk_nkept hM hk4 hmb hmv
            have hrm4 : w4.rangeAt m 2 cs := fun j u hj => by
              have h1 := hrm j u hj
              have h2 : w4.heap[m]? = W1.heap[m]? := hk4.block m hM.lt hmb hmv
              exact (World.cell?_of_block h2).trans h1
            have hBw4 : B ≤ w4.heap.size := by have := hN4.lt; have := hN4.1; omega
            clear hN hS2 hA hM hb hk4 hr4 hv hsb hsv hmb hmv c0 c1 hrm
            go_wp2_with (first | (refine wpList_load_mid rfl 40 (.tmp 35) rfl m 2 rfl cs _ hrm4 Tryz.underlying40 rfl (by rw [hcl]; exact msg_info) ?_; simp only [Act.put, List.setIfInBounds_toArray, List.set_cons_zero, List.set_cons_succ]) | (at_builtin; refine wpList_append_lies _ rfl (.tmp 34) (.tmp 37) 27 rfl B 40 i0 _ 28 264 Tryz.underlying27 hi0 hz0 hz1 hz2 rfl (by omega) _ _ _ rfl (hS4.alloc _) ⟨w4.heap.size, 0, none⟩ 1 1 cs rfl (by rw [hcl]) ?c1 ?c2 (by omega) ?c3 ?c4 ?c5 (w4.heap.size + 1) (by simp) ?_))
            case c1 =>
              intro j u hj
              refine World.news_of_block (heap_alloc_new _ _) j u ?_
              rw [fold_cells (by rw [hcl]; rfl)]
              simpa using hj
            case c2 => simpa [Array.all_eq_true_iff_forall_mem] using hcone
            case c3 => unfold maxLen; omega
            case c4 => omega
            case c5 => first | omega | (simp; omega)
            intro g' cap' w' hown' hg' hat' hlt3
            have hal := (Below.refl w4.heap.size w4).alloc (Nat.le_refl _) (.cells cs.toArray 40)
            rw [fold_cells (by rw [hcl]; rfl)] at hg'
            have hsb4 : some b ≠ (Value.slice SA Ss.length Scap).ownBlock := own_apartN hN4.2.1 hS4 (by decide)
            have hsv4 := own_two hN4.2.2.1 hS4 (by decide)
            have HN := Lib.hid ((hN4.below hal).grown hg' hsb4 hsv4)
            have HS := Lib.hid (MsgsO.snoc hS1 hS3 hown' HC0.out)
            have hb5 := below_step hb4 hal
            have HB := Lib.hid (hb5.grown hg' hb5.size (fun j hj => Nat.le_trans hB (hS4.lt j hj).1))
            have HP2 : Hid ((Ls ++ [M]).Perm (Ss ++ [M])) := Lib.hid (List.Perm.append_right _ HP.out)
            clear hal hg' hat' hlt3 hown' hN4 hS4 hM4 hb4 hb5 hsb4 hsv4 hrm4
            go_wp2_with fail
            go_roundw
            case rel => exact ⟨k + 1, v4, _, Ls ++ [M], Ss ++ [M], sN + 1, tN, by omega, by rw [List.length_append]; simp; omega, by omega, by omega, by go_num, rfl, HN.out, HS.out, HP2, HB.out⟩
            case measure => simp [intOf]; omega
        · have b1 : (kd == 1) = false := by simpa using k1
          by_cases k2 : kd = 2
          · have b2 : (kd == 2) = true := by simpa using k2
            clear k1 k2
            by_cases hLn : Ls = []
            · subst hLn
              go_wp2_with fail
              refine (ntake_none (by exact hN) nn).mono ?_
              rintro en w4 ⟨u, rfl, hF, b4⟩
              obtain ⟨es, rfl, hel, heone, hF⟩ := From.parts hF rfl
              have hS4 := own_below' hS2 b4
              have hNq := hN.below b4
              clear hN
              have hN := hNq
              clear hNq
              have hbq := below_step hb b4
              clear hb
              have hb := hbq
              clear hbq b4
              clear hS2 hF
              have hS4x : MsgsO B w w4 (.slice SA Ss.length Scap) Ss := ⟨css, hS1, hS4, hS3⟩
              have hX := BlkAt.new w4 40 [.int .i64 0, .int .i64 0, .int .i64 0, .int .i64 0, .int .i64 0, .int .i64 0, .int .i64 0, .int .i64 0, .int .i64 0, .int .i64 0, .bool false, .int .i64 0, .int .i64 0, .int .i64 0, .int .i64 0, .int .i64 0, .int .i64 0, .int .i64 0, .int .i64 0, .int .i64 0, .string ⟨#[]⟩, .int .i64 0, .int .i64 0, .int .i64 0, .int .i64 0, .slice none 0 0, .slice none 0 0, .int .i64 0]
              have HL1 := Lib.hid (show es.length = ([.int .i64 0, .int .i64 0, .int .i64 0, .int .i64 0, .int .i64 0, .int .i64 0, .int .i64 0, .int .i64 0, .int .i64 0, .int .i64 0, .bool false, .int .i64 0, .int .i64 0, .int .i64 0, .int .i64 0, .int .i64 0, .int .i64 0, .int .i64 0, .int .i64 0, .int .i64 0, .string ⟨#[]⟩, .int .i64 0, .int .i64 0, .int .i64 0, .int .i64 0, .slice none 0 0, .slice none 0 0, .int .i64 0] : List Value).length by rw [hel]; rfl)
              have b4 := (Below.refl w4.heap.size w4).alloc (Nat.le_refl _) (.cells #[.int .i64 0, .int .i64 0, .int .i64 0, .int .i64 0, .int .i64 0, .int .i64 0, .int .i64 0, .int .i64 0, .int .i64 0, .int .i64 0, .bool false, .int .i64 0, .int .i64 0, .int .i64 0, .int .i64 0, .int .i64 0, .int .i64 0, .int .i64 0, .int .i64 0, .int .i64 0, .string ⟨#[]⟩, .int .i64 0, .int .i64 0, .int .i64 0, .int .i64 0, .slice none 0 0, .slice none 0 0, .int .i64 0] 40)
              have G4 := grown_setCells w4.heap.size es 0 (w4.alloc (.cells #[.int .i64 0, .int .i64 0, .int .i64 0, .int .i64 0, .int .i64 0, .int .i64 0, .int .i64 0, .int .i64 0, .int .i64 0, .int .i64 0, .bool false, .int .i64 0, .int .i64 0, .int .i64 0, .int .i64 0, .int .i64 0, .int .i64 0, .int .i64 0, .int .i64 0, .int .i64 0, .string ⟨#[]⟩, .int .i64 0, .int .i64 0, .int .i64 0, .int .i64 0, .slice none 0 0, .slice none 0 0, .int .i64 0] 40))
              have b5 := b4.grown G4 b4.size (by intro j hj; cases hj; exact Nat.le_refl _)
              have hYn := hX.stored (vs := es) HL1.out
              have HT := Lib.hid (blk_there2 hX HL1.out)
              have hNn := hN.below b5
              clear hN
              have hN := hNn
              clear hNn
              have hS4xn := hS4x.below b5
              clear hS4x
              have hS4x := hS4xn
              clear hS4xn
              have hbn := below_step hb b5
              clear hb
              have hb := hbn
              clear hbn
              clear hX b4 G4 b5 HL1
              go_upto_region 14 with (first | (refine wpList_store_mid rfl 40 (.tmp 7) (.tmp 46) rfl w4.heap.size 0 es.toArray rfl rfl (by exact HT.out) (by rw [List.size_toArray, hel]; exact msg_info) heone ?_; rw [List.toList_toArray]))
              change Code.wp _ _ _ _ ((w4.alloc (.cells #[.int .i64 0, .int .i64 0, .int .i64 0, .int .i64 0, .int .i64 0, .int .i64 0, .int .i64 0, .int .i64 0, .int .i64 0, .int .i64 0, .bool false, .int .i64 0, .int .i64 0, .int .i64 0, .int .i64 0, .int .i64 0, .int .i64 0, .int .i64 0, .int .i64 0, .int .i64 0, .string ⟨#[]⟩, .int .i64 0, .int .i64 0, .int .i64 0, .int .i64 0, .slice none 0 0, .slice none 0 0, .int .i64 0] 40)).setCells w4.heap.size 0 es)
              generalize (w4.alloc (.cells #[.int .i64 0, .int .i64 0, .int .i64 0, .int .i64 0, .int .i64 0, .int .i64 0, .int .i64 0, .int .i64 0, .int .i64 0, .int .i64 0, .bool false, .int .i64 0, .int .i64 0, .int .i64 0, .int .i64 0, .int .i64 0, .int .i64 0, .int .i64 0, .int .i64 0, .int .i64 0, .string ⟨#[]⟩, .int .i64 0, .int .i64 0, .int .i64 0, .int .i64 0, .slice none 0 0, .slice none 0 0, .int .i64 0] 40)).setCells w4.heap.size 0 es = W4 at *
              have hY := hYn
              clear hYn HT
              obtain ⟨y, hLL⟩ : ∃ q, q = w4.heap.size := ⟨_, rfl⟩
              rw [← hLL] at hY ⊢
              have HEy := Lib.hid hLL
              clear hLL
              have HN := Lib.hid hN
              have HS := Lib.hid hS4x
              have HB := Lib.hid hb
              clear hN hS4 hS4x hb hY hv hsb hsv hmb hmv c0 c1 hrm hA hM
              go_wp2_with fail
              go_roundw
              case rel => exact ⟨k + 1, v, _, [], Ss, sN, tN, by omega, Nat.zero_le _, by omega, by omega, by go_num, rfl, HN.out, HS.out, HP, HB.out⟩
              case measure => simp [intOf]; omega
            · obtain ⟨T, hT⟩ := place_some hLn nn
              have hG := hN.goes hT
              have hTS : T ∈ Ss := HP.out.mem_iff.1 (List.mem_of_getElem? hT)
              have HTK : Hid (Ls.Perm (T :: takeN_ Ls nn)) := Lib.hid (perm_cons_erase hT)
              have hTl : (takeN_ Ls nn).length = Ls.length - 1 := ntakeN_len hLn nn
              go_wp2_with fail
              refine (ntake_any (by exact hN) hLn (by omega) (by omega) hwn hT).mono ?_
              rintro en w4 ⟨u, v4, rfl, hF, hN4, hk4, hq4⟩
              obtain ⟨es, rfl, hel, heone, hF⟩ := From.parts hF hG.ok.op.1
              have hS4 : MsgsO B w w4 (.slice SA Ss.length Scap) Ss := ⟨css, hS1, own_nkept hS2 hk4 hsb hsv, hS3⟩
              have hb4 := hk4.below hb hbw hv
              have hU := hF.at
              generalize takeN_ Ls nn = L2 at *
              have HGO := Lib.hid hN.2.2.2
              clear hN hS1 hS2 hS3 hb hk4 hF hv hsb hsv hmb hmv c0 c1 hrm hA hM css
              have hX := BlkAt.new w4 40 [.int .i64 0, .int .i64 0, .int .i64 0, .int .i64 0, .int .i64 0, .int .i64 0, .int .i64 0, .int .i64 0, .int .i64 0, .int .i64 0, .bool false, .int .i64 0, .int .i64 0, .int .i64 0, .int .i64 0, .int .i64 0, .int .i64 0, .int .i64 0, .int .i64 0, .int .i64 0, .string ⟨#[]⟩, .int .i64 0, .int .i64 0, .int .i64 0, .int .i64 0, .slice none 0 0, .slice none 0 0, .int .i64 0]
              have HL1 := Lib.hid (show es.length = ([.int .i64 0, .int .i64 0, .int .i64 0, .int .i64 0, .int .i64 0, .int .i64 0, .int .i64 0, .int .i64 0, .int .i64 0, .int .i64 0, .bool false, .int .i64 0, .int .i64 0, .int .i64 0, .int .i64 0, .int .i64 0, .int .i64 0, .int .i64 0, .int .i64 0, .int .i64 0, .string ⟨#[]⟩, .int .i64 0, .int .i64 0, .int .i64 0, .int .i64 0, .slice none 0 0, .slice none 0 0, .int .i64 0] : List Value).length by rw [hel]; rfl)
              have b4 := (Below.refl w4.heap.size w4).alloc (Nat.le_refl _) (.cells #[.int .i64 0, .int .i64 0, .int .i64 0, .int .i64 0, .int .i64 0, .int .i64 0, .int .i64 0, .int .i64 0, .int .i64 0, .int .i64 0, .bool false, .int .i64 0, .int .i64 0, .int .i64 0, .int .i64 0, .int .i64 0, .int .i64 0, .int .i64 0, .int .i64 0, .int .i64 0, .string ⟨#[]⟩, .int .i64 0, .int .i64 0, .int .i64 0, .int .i64 0, .slice none 0 0, .slice none 0 0, .int .i64 0] 40)
              have G4 := grown_setCells w4.heap.size es 0 (w4.alloc (.cells #[.int .i64 0, .int .i64 0, .int .i64 0, .int .i64 0, .int .i64 0, .int .i64 0, .int .i64 0, .int .i64 0, .int .i64 0, .int .i64 0, .bool false, .int .i64 0, .int .i64 0, .int .i64 0, .int .i64 0, .int .i64 0, .int .i64 0, .int .i64 0, .int .i64 0, .int .i64 0, .string ⟨#[]⟩, .int .i64 0, .int .i64 0, .int .i64 0, .int .i64 0, .slice none 0 0, .slice none 0 0, .int .i64 0] 40))
              have b5 := b4.grown G4 b4.size (by intro j hj; cases hj; exact Nat.le_refl _)
              have hYn := hX.stored (vs := es) HL1.out
              have HT := Lib.hid (blk_there2 hX HL1.out)
              have hN4n := hN4.below b5
              clear hN4
              have hN4 := hN4n
              clear hN4n
              have hS4n := hS4.below b5
              clear hS4
              have hS4 := hS4n
              clear hS4n
              have hUn := hU.below b5
              clear hU
              have hU := hUn
              clear hUn
              have hb4n := below_step hb4 b5
              clear hb4
              have hb4 := hb4n
              clear hb4n
              clear hX b4 G4 b5 HL1
              go_upto_region 14 with (first | (refine wpList_store_mid rfl 40 (.tmp 7) (.tmp 46) rfl w4.heap.size 0 es.toArray rfl rfl (by exact HT.out) (by rw [List.size_toArray, hel]; exact msg_info) heone ?_; rw [List.toList_toArray]))
              change Code.wp _ _ _ _ ((w4.alloc (.cells #[.int .i64 0, .int .i64 0, .int .i64 0, .int .i64 0, .int .i64 0, .int .i64 0, .int .i64 0, .int .i64 0, .int .i64 0, .int .i64 0, .bool false, .int .i64 0, .int .i64 0, .int .i64 0, .int .i64 0, .int .i64 0, .int .i64 0, .int .i64 0, .int .i64 0, .int .i64 0, .string ⟨#[]⟩, .int .i64 0, .int .i64 0, .int .i64 0, .int .i64 0, .slice none 0 0, .slice none 0 0, .int .i64 0] 40)).setCells w4.heap.size 0 es)
              generalize (w4.alloc (.cells #[.int .i64 0, .int .i64 0, .int .i64 0, .int .i64 0, .int .i64 0, .int .i64 0, .int .i64 0, .int .i64 0, .int .i64 0, .int .i64 0, .bool false, .int .i64 0, .int .i64 0, .int .i64 0, .int .i64 0, .int .i64 0, .int .i64 0, .int .i64 0, .int .i64 0, .int .i64 0, .string ⟨#[]⟩, .int .i64 0, .int .i64 0, .int .i64 0, .int .i64 0, .slice none 0 0, .slice none 0 0, .int .i64 0] 40)).setCells w4.heap.size 0 es = W4 at *
              have hY := hYn
              clear hYn HT
              obtain ⟨y, hLL⟩ : ∃ q, q = w4.heap.size := ⟨_, rfl⟩
              rw [← hLL] at hY ⊢
              have HEy := Lib.hid hLL
              clear hLL
              clear heone
              go_wp2_with fail
              go_loopw [4, 52] (fun s i wr => ∃ q : Nat, q ≤ Ss.length ∧ s = .slice SA Ss.length Scap ∧ i = .int .i64 q ∧ NetAt B wr b v4 L2 sN (tN + 1) ∧ MsgsO B w wr (.slice SA Ss.length Scap) Ss ∧ T.At wr (.agg es.toArray) ∧ BlkAt wr y 40 es ∧ Aside (∀ j, j < q → Ss[j]? ≠ some T) ∧ Below w.heap.size w wr) (fun _ i _ => Ss.length - (intOf i).toNat)
              case atStart => exact ⟨0, Nat.zero_le _, rfl, rfl, hN4, hS4, hU, hY, fun j hj => by omega, hb4⟩
              case round =>
                obtain ⟨q, hq, rfl, rfl, hNr, hSr, hUr, hYr, HA, hbr⟩ := hrel
                clear hN4 hS4 hU hY hb4
                have hN := hNr
                have hS := hSr
                have hU := hUr
                have hY := hYr
                have hb := hbr
                clear hNr hSr hUr hYr hbr
                by_cases hlq : q < Ss.length
                · have hlq' : (q : Int) < (Ss.length : Int) := by omega
                  obtain ⟨K, hK⟩ : ∃ K, Ss[q]? = some K := ⟨_, List.getElem?_eq_getElem hlq⟩
                  obtain ⟨g, ks, rfl, hCK, hcell⟩ := hS.at hK
                  have hkl := hCK.1
                  have hGK : Goes K := by
                    have h1 : K ∈ Ls := HP.out.mem_iff.2 (List.mem_of_getElem? hK)
                    exact HGO.out K h1
                  have hKA : K.At wr (.agg ks.toArray) := hCK.2.2.below hb
                  have hrk : wr.rangeAt g (q * 28) ks := hcell
                  obtain ⟨dq, hdq⟩ : ∃ dq, dq = decide (K = T) := ⟨_, rfl⟩
                  have HDQ := Lib.hid hdq.symm
                  have HKK := Lib.hid hK
                  have HCK := Lib.hid hCK
                  clear hdq hK hCK hcell
                  go_upto_region 19 with (fail)
                  have bd : Below wr.heap.size wr wr.drew := below_drewN (Below.refl _ _) 1
                  have hrk : wr.drew.rangeAt g (q * 28) ks := hrk
                  have hgl : g < wr.drew.heap.size := by
                    obtain ⟨css, _, h2, _⟩ := hS
                    exact (h2.lt g rfl).2
                  have hrk0 : Hid (∀ W9, Below wr.drew.heap.size wr.drew W9 → W9.rangeAt g (q * 28) ks) := Lib.hid (fun W9 hb9 j u hj => (hb9.cell (p := ⟨g, _, none⟩) hgl).trans (hrk j u hj))
                  have hNq := hN.below bd
                  clear hN
                  have hN := hNq
                  clear hNq
                  have hSq := hS.below bd
                  clear hS
                  have hS := hSq
                  clear hSq
                  have hUq := hU.below bd
                  clear hU
                  have hU := hUq
                  clear hUq
                  have hYq := hY.below bd
                  clear hY
                  have hY := hYq
                  clear hYq
                  have hKAq := hKA.below bd
                  clear hKA
                  have hKA := hKAq
                  clear hKAq
                  have hbq := below_step hb bd
                  clear hb
                  have hb := hbq
                  clear hbq bd
                  refine wp_region_noPanic ?_
                  refine wp_region_held_drew (S := (fun w' => w'.rangeAt g (q * 28) ks ∧ BlkAt w' y 40 es)) (by kernel_rfl) (by exact ⟨hrk, hY⟩) (fun hHeld => ?_)
                  refine wpAnyH_take (i := 0) (oi := ?oq_1_0) (v := ?va_1_0) ?op_1_0 (by kernel_rfl) (by kernel_rfl) (by kernel_rfl) (fun _ _ _ h => h) ?yi_1_0 hHeld ?re_1_0
                  case op_1_0 => (simp only [List.getElem?_toArray, List.getElem?_cons_zero]; rfl)
                  case yi_1_0 =>
                    refine Or.inl ⟨by rfl, ?_⟩
                    intro w hSw
                    try dsimp only at hSw
                    go_simp
                    all_goals with_reducible rfl
                  try simp only [Act.put, List.setIfInBounds_toArray, List.set_cons_zero, List.set_cons_succ]
                  refine wpAnyH_take (i := 1) (oi := ?oq_1_1) (v := ?va_1_1) ?op_1_1 (by kernel_rfl) (by kernel_rfl) (by kernel_rfl) (fun _ _ _ h => h) ?yi_1_1 hHeld ?re_1_1
                  case op_1_1 => (simp only [List.getElem?_toArray, List.getElem?_cons_succ, List.getElem?_cons_zero]; rfl)
                  case yi_1_1 =>
                    refine Or.inl ⟨by rfl, ?_⟩
                    intro w hSw
                    try dsimp only at hSw
                    go_simp
                    all_goals with_reducible rfl
                  try simp only [Act.put, List.setIfInBounds_toArray, List.set_cons_zero, List.set_cons_succ]
                  refine wpAnyH_take (i := 2) (oi := ?oq_1_2) (v := ?va_1_2) ?op_1_2 (by kernel_rfl) (by kernel_rfl) (by kernel_rfl) (fun _ _ _ h => h) ?yi_1_2 hHeld ?re_1_2
                  case op_1_2 => (simp only [List.getElem?_toArray, List.getElem?_cons_succ, List.getElem?_cons_zero]; rfl)
                  case yi_1_2 =>
                    refine Or.inl ⟨by rfl, ?_⟩
                    intro w hSw
                    try dsimp only at hSw
                    go_simp
                    all_goals with_reducible rfl
                  try simp only [Act.put, List.setIfInBounds_toArray, List.set_cons_zero, List.set_cons_succ]
                  refine wpAnyH_take (i := 3) (oi := ?oq_1_3) (v := ?va_1_3) ?op_1_3 (by kernel_rfl) (by kernel_rfl) (by kernel_rfl) (fun _ _ _ h => h) ?yi_1_3 hHeld ?re_1_3
                  case op_1_3 => (simp only [List.getElem?_toArray, List.getElem?_cons_succ, List.getElem?_cons_zero]; rfl)
                  case yi_1_3 => exact (by
                    refine yieldsIf_load_mid ?_ 40 (.tmp 57) ?_ g (q * 28) ?_ ks _ ?_ Tryz.underlying40 ?_ (by rw [hkl]; exact msg_info)
                    · rfl
                    · rfl
                    · rfl
                    · intro w h
                      have h : _ ∧ _ := h
                      exact h.1
                    · rfl)
                  try simp only [Act.put, List.setIfInBounds_toArray, List.set_cons_zero, List.set_cons_succ]
                  refine wpAnyH_take (i := 4) (oi := ?oq_1_4) (v := ?va_1_4) ?op_1_4 (by kernel_rfl) (by kernel_rfl) (by kernel_rfl) (fun _ _ _ h => h) ?yi_1_4 hHeld ?re_1_4
                  case op_1_4 => (simp only [List.getElem?_toArray, List.getElem?_cons_succ, List.getElem?_cons_zero]; rfl)
                  case yi_1_4 => exact (by
                    refine yieldsIf_load_mid ?_ 40 (.tmp 7) ?_ y 0 ?_ es _ ?_ Tryz.underlying40 ?_ (by rw [hel]; exact msg_info)
                    · rfl
                    · rfl
                    · rfl
                    · intro w h
                      have h : _ ∧ _ := h
                      exact BlkAt.range h.2
                    · rfl)
                  try simp only [Act.put, List.setIfInBounds_toArray, List.set_cons_zero, List.set_cons_succ]
                  refine wpAnyH_ready (rs := [5]) (by kernel_rfl) (by simp) (AllReadyH.cons (o := ?oq_1_5) ?op_1_5 (fun K hK => ?re_1_5) AllReadyH.nil)
                  case op_1_5 => (simp only [List.getElem?_toArray, List.getElem?_cons_succ, List.getElem?_cons_zero]; rfl)
                  go_simp
                  go_at_call 14
                  refine (qwsame_any (by exact hKA) (by exact hU) hGK.ok.op.1 hG.ok.op.1).mono ?_
                  rintro en z2 ⟨rfl, b9⟩
                  rw [HDQ.out]
                  have hrk := hrk0.out z2 b9
                  have hNq := hN.below b9
                  clear hN
                  have hN := hNq
                  clear hNq
                  have hSq := hS.below b9
                  clear hS
                  have hS := hSq
                  clear hSq
                  have hUq := hU.below b9
                  clear hU
                  have hU := hUq
                  clear hUq
                  have hYq := hY.below b9
                  clear hY
                  have hY := hYq
                  clear hYq
                  have hbq := below_step hb b9
                  clear hb
                  have hb := hbq
                  clear hbq b9
                  refine hK.out _ _ (by exact ⟨hrk, hY⟩) (fun hHeld => ?_)
                  clear hK K
                  try simp only [Act.put, List.setIfInBounds_toArray, List.set_cons_zero, List.set_cons_succ]
                  refine wpAnyH_done (by kernel_rfl) ?_ _
                  refine NoPanic.normal ?_
                  have HAK : Hid (∀ j, j < q → Ss[j]? ≠ some T) := Lib.hid HA.out
                  cases dq with
                  | false =>
                    have hne : K ≠ T := of_decide_eq_false HDQ.out
                    have HA2 : Hid (∀ j, j < q + 1 → Ss[j]? ≠ some T) := Lib.hid (fun j hj => by
                      rcases Nat.lt_or_ge j q with h | h
                      · exact HAK.out j h
                      · obtain rfl : j = q := by omega
                        rw [HKK.out]
                        intro e
                        exact hne (Option.some.inj e))
                    have HN := Lib.hid hN
                    have HS := Lib.hid hS
                    have HU := Lib.hid hU
                    have HY := Lib.hid hY
                    have HB := Lib.hid hb
                    clear hN hS hU hY hb hrk hKA hne HAK
                    go_wp2_with fail
                    go_roundw
                    case rel => exact ⟨q + 1, by omega, rfl, by go_num, HN.out, HS.out, HU.out, HY.out, HA2.out, HB.out⟩
                    case measure => simp [intOf]; omega
                  | true =>
                    have hKT : K = T := of_decide_eq_true HDQ.out
                    have HKT := Lib.hid (show Ss[q]? = some T by rw [← hKT]; exact HKK.out)
                    obtain ⟨css, hS1, hS2, hS3⟩ := hS
                    have h28 : ∀ c ∈ css, c.length = 28 := fun c hc => by
                      obtain ⟨i, hi⟩ := List.getElem?_of_mem hc
                      have hil := (List.getElem?_eq_some_iff.1 hi).1
                      exact (hS3 i _ c (List.getElem?_eq_getElem (by omega)) hi).1
                    have hones : ∀ u ∈ css.flatten, u.oneCell' = true := fun u hu => by
                      obtain ⟨c, hc, huc⟩ := List.mem_flatten.1 hu
                      obtain ⟨i, hi⟩ := List.getElem?_of_mem hc
                      have hil := (List.getElem?_eq_some_iff.1 hi).1
                      have h1 := (hS3 i _ c (List.getElem?_eq_getElem (by omega)) hi).2.1
                      rw [Array.all_eq_true_iff_forall_mem] at h1
                      exact h1 u (by simpa using huc)
                    have hfl : css.flatten.length = Ss.length * 28 := hS2.1
                    have hcap : Ss.length ≤ Scap := by
                      rcases hS2.2 with ⟨hv, h0⟩ | ⟨g', cap', cur, hv, _, _, hn', _⟩
                      · omega
                      · simp only [Value.slice.injEq] at hv
                        omega
                    clear hU hY hrk hKA hKT hrk0 HAK
                    go_upto_region 20 with (fail)
                    have bd : Below z2.heap.size z2 z2.drew := below_drewN (Below.refl _ _) 1
                    have hS2d := own_below' hS2 bd
                    have hNq := hN.below bd
                    clear hN
                    have hN := hNq
                    clear hNq
                    have hbq := below_step hb bd
                    clear hb
                    have hb := hbq
                    clear hbq bd
                    have hBz : B ≤ z2.drew.heap.size := by have := hN.lt; have := hN.1; omega
                    have hal := (Below.refl z2.drew.heap.size z2.drew).alloc (Nat.le_refl _) (.cells #[] 40)
                    have hE : (z2.drew.alloc (.cells #[] 40)).ownsRow B 40 28 (.slice (some ⟨z2.drew.heap.size, 0, none⟩) 0 0) 0 [] := ⟨rfl, .inr ⟨_, 0, #[], rfl, hBz, heap_alloc_new _ _, Nat.le_refl _, Nat.zero_le _, rfl, rfl⟩⟩
                    have hNE := hN.below hal
                    have hSE := own_below' hS2d hal
                    have hbE := below_step hb hal
                    have hBE : B ≤ (z2.drew.alloc (.cells #[] 40)).heap.size := Nat.le_trans hBz hal.size
                    have hgz : g < z2.drew.heap.size := (hS2d.lt g rfl).2
                    have hc1 : ∀ j u, (css.flatten.take (q * 28))[j]? = some u → (z2.drew.alloc (.cells #[] 40)).cell? ((⟨g, 0, none⟩ : Addr).add j) = some u := fun j u hj => hSE.cells (g := g) rfl j u (by
                      rw [List.getElem?_take] at hj
                      split at hj
                      · exact hj
                      · cases hj)
                    have hl1 : (css.flatten.take (q * 28)).length = q * 28 := by rw [List.length_take, hfl]; omega
                    obtain ⟨r, hr⟩ : ∃ r, r = q + 1 := ⟨_, rfl⟩
                    have hl2 : (css.flatten.drop (r * 28)).length = (Ss.length - r) * 28 := by rw [List.length_drop, hfl]; omega
                    have hon1 : ∀ u ∈ css.flatten.take (q * 28), u.oneCell' = true := fun u hu => hones u (List.mem_of_mem_take hu)
                    have hon2 : ∀ u ∈ css.flatten.drop (r * 28), u.oneCell' = true := fun u hu => hones u (List.mem_of_mem_drop hu)
                    have hqc : (q : Int) ≤ (Scap : Int) := by omega
                    have hwq : IntKind.i64.wrap ((q : Int) + 1) = (r : Int) := by rw [IntKind.wrap_i64]; omega
                    have hrl : (r : Int) ≤ (Ss.length : Int) := by omega
                    have hrl2 : r ≤ Ss.length := by omega
                    have HR := Lib.hid hr
                    have hlc : (Ss.length : Int) ≤ (Scap : Int) := by omega
                    clear hones hN hS2 hS2d hb hal hr
                    refine wp_region_noPanic ?_
                    refine wp_region_held_drew (S := (fun w' => True)) (by kernel_rfl) (by exact trivial) (fun hHeld => ?_)
                    refine wpAnyH_take (i := 1) (oi := ?oq_2_1) (v := ?va_2_1) ?op_2_1 (by kernel_rfl) (by kernel_rfl) (by kernel_rfl) (fun _ _ _ h => h) ?yi_2_1 hHeld ?re_2_1
                    case op_2_1 => (simp only [List.getElem?_toArray, List.getElem?_cons_succ, List.getElem?_cons_zero]; rfl)
                    case yi_2_1 =>
                      refine Or.inl ⟨by rfl, ?_⟩
                      intro w hSw
                      try dsimp only at hSw
                      go_simp
                      all_goals with_reducible rfl
                    try simp only [Act.put, List.setIfInBounds_toArray, List.set_cons_zero, List.set_cons_succ]
                    refine wpAnyH_take (i := 2) (oi := ?oq_2_2) (v := ?va_2_2) ?op_2_2 (by kernel_rfl) (by kernel_rfl) (by kernel_rfl) (fun _ _ _ h => h) ?yi_2_2 hHeld ?re_2_2
                    case op_2_2 => (simp only [List.getElem?_toArray, List.getElem?_cons_succ, List.getElem?_cons_zero]; rfl)
                    case yi_2_2 =>
                      refine Or.inl ⟨by rfl, ?_⟩
                      intro w hSw
                      try dsimp only at hSw
                      go_simp
                      all_goals with_reducible rfl
                    try simp only [Act.put, List.setIfInBounds_toArray, List.set_cons_zero, List.set_cons_succ]
                    refine wpAnyH_take (i := 3) (oi := ?oq_2_3) (v := ?va_2_3) ?op_2_3 (by kernel_rfl) (by kernel_rfl) (by kernel_rfl) (fun _ _ _ h => h) ?yi_2_3 hHeld ?re_2_3
                    case op_2_3 => (simp only [List.getElem?_toArray, List.getElem?_cons_succ, List.getElem?_cons_zero]; rfl)
                    case yi_2_3 =>
                      refine Or.inl ⟨by rfl, ?_⟩
                      intro w hSw
                      try dsimp only at hSw
                      go_simp
                      all_goals with_reducible rfl
                    try simp only [Act.put, List.setIfInBounds_toArray, List.set_cons_zero, List.set_cons_succ]
                    refine wpAnyH_take (i := 5) (oi := ?oq_2_5) (v := ?va_2_5) ?op_2_5 (by kernel_rfl) (by kernel_rfl) (by kernel_rfl) (fun _ _ _ h => h) ?yi_2_5 hHeld ?re_2_5
                    case op_2_5 => (simp only [List.getElem?_toArray, List.getElem?_cons_succ, List.getElem?_cons_zero]; rfl)
                    case yi_2_5 =>
                      refine Or.inl ⟨by rfl, ?_⟩
                      intro w hSw
                      try dsimp only at hSw
                      go_simp
                      all_goals with_reducible rfl
                    try simp only [Act.put, List.setIfInBounds_toArray, List.set_cons_zero, List.set_cons_succ]
                    refine wpAnyH_take (i := 6) (oi := ?oq_2_6) (v := ?va_2_6) ?op_2_6 (by kernel_rfl) (by kernel_rfl) (by kernel_rfl) (fun _ _ _ h => h) ?yi_2_6 hHeld ?re_2_6
                    case op_2_6 => (simp only [List.getElem?_toArray, List.getElem?_cons_succ, List.getElem?_cons_zero]; rfl)
                    case yi_2_6 =>
                      refine Or.inl ⟨by rfl, ?_⟩
                      intro w hSw
                      try dsimp only at hSw
                      go_simp
                      all_goals with_reducible rfl
                    try simp only [Act.put, List.setIfInBounds_toArray, List.set_cons_zero, List.set_cons_succ]
                    refine wpAnyH_take (i := 7) (oi := ?oq_2_7) (v := ?va_2_7) ?op_2_7 (by kernel_rfl) (by kernel_rfl) (by kernel_rfl) (fun _ _ _ h => h) ?yi_2_7 hHeld ?re_2_7
                    case op_2_7 => (simp only [List.getElem?_toArray, List.getElem?_cons_succ, List.getElem?_cons_zero]; rfl)
                    case yi_2_7 =>
                      refine Or.inl ⟨by rfl, ?_⟩
                      intro w hSw
                      try dsimp only at hSw
                      go_simp
                      all_goals with_reducible rfl
                    try simp only [Act.put, List.setIfInBounds_toArray, List.set_cons_zero, List.set_cons_succ]
                    refine wpAnyH_take (i := 8) (oi := ?oq_2_8) (v := ?va_2_8) ?op_2_8 (by kernel_rfl) (by kernel_rfl) (by kernel_rfl) (fun _ _ _ h => h) ?yi_2_8 hHeld ?re_2_8
                    case op_2_8 => (simp only [List.getElem?_toArray, List.getElem?_cons_succ, List.getElem?_cons_zero]; rfl)
                    case yi_2_8 =>
                      refine Or.inl ⟨by rfl, ?_⟩
                      intro w hSw
                      try dsimp only at hSw
                      go_simp
                      all_goals with_reducible rfl
                    try simp only [Act.put, List.setIfInBounds_toArray, List.set_cons_zero, List.set_cons_succ]
                    refine wpAnyH_ready (rs := [0]) (by kernel_rfl) (by simp) (AllReadyH.cons (o := ?oq_2_0) ?op_2_0 (fun K hK => ?re_2_0) AllReadyH.nil)
                    case op_2_0 => (simp only [List.getElem?_toArray, List.getElem?_cons_zero]; rfl)
                    go_simp
                    refine hK.out _ _ (by exact trivial) (fun hHeld => ?_)
                    clear hK K
                    try simp only [Act.put, List.setIfInBounds_toArray, List.set_cons_zero, List.set_cons_succ]
                    refine wpAnyH_ready (rs := [4]) (by kernel_rfl) (by simp) (AllReadyH.cons (o := ?oq_2_4) ?op_2_4 (fun K hK => ?re_2_4) AllReadyH.nil)
                    case op_2_4 => (simp only [List.getElem?_toArray, List.getElem?_cons_succ, List.getElem?_cons_zero]; rfl)
                    refine step_append_row (by rfl) _ _ (by rfl) (base := B) (n := 0) (cap := 0) (m := q) (c := Scap) (A := some ⟨z2.drew.heap.size, 0, none⟩) (A2 := some ⟨g, 0, none⟩) (xs := []) (news := css.flatten.take (q * 28)) (by rfl) (by exact hE) (by rfl) hl1 (fun _ => ⟨_, rfl, hc1⟩) hon1 (by omega) hBE ?_
                    intro A4 cap4 w6 hown6 hg6 hn6
                    have hN6 := hNE.grown hg6 (own_apartN hNE.2.1 hE (by decide)) (own_two hNE.2.2.1 hE (by decide))
                    have hS6 := hSE.kept hg6 (.inr fun e => Nat.ne_of_lt hgz (by simpa [Value.ownBlock] using e))
                    have hb6 := hbE.grown hg6 hbE.size (fun j hj => Nat.le_trans hB (hE.lt j hj).1)
                    have hB6 : B ≤ w6.heap.size := Nat.le_trans hBE hg6.size
                    have hc2 : ∀ j u, (css.flatten.drop (r * 28))[j]? = some u → w6.cell? ((⟨g, r * 28, none⟩ : Addr).add j) = some u := fun j u hj => by
                      rw [addr_add]
                      have h1 := hS6.cells (g := g) rfl (r * 28 + j) u (by rw [List.getElem?_drop] at hj; exact hj)
                      rw [addr_add, Nat.zero_add] at h1
                      exact h1
                    refine hK.out _ _ (by exact trivial) (fun hHeld => ?_)
                    clear hK K
                    try simp only [Act.put, List.setIfInBounds_toArray, List.set_cons_zero, List.set_cons_succ]
                    refine wpAnyH_ready (rs := [9]) (by kernel_rfl) (by simp) (AllReadyH.cons (o := ?oq_2_9) ?op_2_9 (fun K hK => ?re_2_9) AllReadyH.nil)
                    case op_2_9 => (simp only [List.getElem?_toArray, List.getElem?_cons_succ, List.getElem?_cons_zero]; rfl)
                    refine step_append_row (by rfl) _ _ (by rfl) (base := B) (n := 0 + q) (cap := cap4) (m := Ss.length - r) (c := Scap - r) (A := A4) (A2 := if Scap = r then some ⟨g, 0, none⟩ else some ⟨g, r * 28, none⟩) (xs := [] ++ css.flatten.take (q * 28)) (news := css.flatten.drop (r * 28)) (by rfl) (by exact hown6) (by rfl) hl2 (fun hp => ⟨⟨g, r * 28, none⟩, if_neg (by omega), hc2⟩) hon2 (by omega) hB6 ?_
                    intro A5 cap5 w7 hown7 hg7 hn7
                    refine hK.out _ _ (by exact trivial) (fun hHeld => ?_)
                    clear hK K
                    try simp only [Act.put, List.setIfInBounds_toArray, List.set_cons_zero, List.set_cons_succ]
                    refine wpAnyH_take (i := 10) (oi := ?oq_2_10) (v := ?va_2_10) ?op_2_10 (by kernel_rfl) (by kernel_rfl) (by kernel_rfl) (fun _ _ _ h => h) ?yi_2_10 hHeld ?re_2_10
                    case op_2_10 => (simp only [List.getElem?_toArray, List.getElem?_cons_succ, List.getElem?_cons_zero]; rfl)
                    case yi_2_10 =>
                      refine Or.inl ⟨by rfl, ?_⟩
                      intro w hSw
                      try dsimp only at hSw
                      go_simp
                      all_goals with_reducible rfl
                    try simp only [Act.put, List.setIfInBounds_toArray, List.set_cons_zero, List.set_cons_succ]
                    refine wpAnyH_done (by kernel_rfl) ?_ _
                    refine NoPanic.normal ?_
                    have hr := HR.out
                    clear hwq HR
                    have hown7z := hown7
                    rw [Nat.zero_add] at hown7z
                    have e : q + (Ss.length - r) = Ss.length - 1 := by omega
                    have HN := Lib.hid (hN6.grown hg7 (own_apartN hN6.2.1 hown6 (by decide)) (own_two hN6.2.2.1 hown6 (by decide)))
                    have HS : Hid (MsgsO B w w7 (.slice A5 (q + (Ss.length - r)) cap5) (Ss.eraseIdx q)) := Lib.hid (MsgsO.erase hS1 hS3 h28 hlq (by rw [← e, ← hr]; exact hown7z))
                    have HB := Lib.hid (hb6.grown hg7 hb6.size (fun j hj => Nat.le_trans hB (hown6.lt j hj).1))
                    have HP2 : Hid (L2.Perm (Ss.eraseIdx q)) := Lib.hid ((List.perm_cons T).1 (HTK.out.symm.trans (HP.out.trans (perm_cons_erase HKT.out))))
                    clear hN6 hg7 hown6 hown7 hb6 hS1 hS3 h28 e hn7 hr hown7z hE hSE hNE hbE
                    go_wp2_with fail
                    go_roundw
                    case rel => exact ⟨k + 1, v4, _, L2, Ss.eraseIdx q, sN, tN + 1, by omega, by omega, by omega, by omega, by go_num, rfl, HN.out, HS.out, HP2, HB.out⟩
                    case measure => simp [intOf]; omega
                · have hqe : q = Ss.length := by omega
                  obtain ⟨j, hj⟩ := List.getElem?_of_mem hTS
                  exact absurd hj (HA.out j (by rw [hqe]; exact (List.getElem?_eq_some_iff.1 hj).1))
          · have b2 : (kd == 2) = false := by simpa using k2
            have HN := Lib.hid hN
            have HS := Lib.hid (show MsgsO B w W1 (.slice SA Ss.length Scap) Ss from ⟨css, hS1, hS2, hS3⟩)
            have HB := Lib.hid hb
            clear k1 k2 hN hS2 hb hv hsb hsv hmb hmv c1 hrm hA hM
            go_wp2_with fail
            go_roundw
            case rel => exact ⟨k + 1, v, _, Ls, Ss, sN, tN, by omega, by omega, by omega, by omega, by go_num, rfl, HN.out, HS.out, HP, HB.out⟩
            case measure => simp [intOf]; omega
      · have hlt' : ¬ (k : Int) < (S.length : Int) := by omega
        have hlE : Ls.length = Ss.length := HP.out.length_eq
        have HLE := Lib.hid hlE
        clear hlE
        go_wp2_with fail
        refine (nlen_any (by exact hN)).mono ?_
        rintro en w5 ⟨rfl, rfl⟩
        rw [HLE.out]
        go_wp2_with fail
        go_ret
        exact ⟨rfl, hb⟩
set_option maxRecDepth 100000 in
theorem NetSent_walk {H : Type} {enc : TypeId × Value → H} {base : Nat} {d : DataW H} {p : List MemPlace} (v : Value) (w : World) (hv : Value.okWide Tryz.prog w .any base 22 v) (ht : DataW.Trod enc Tryz.prog w 0 (fun _ => true) true 22 v d p) :
    Calls Tryz.prog 3 #[v] w fun e w' => e = .returned (.bool true) ∧ Below w.heap.size w w' := by
  obtain ⟨a, S, cap, rfl, hS⟩ := open_nops hv ht
  exact NetSent_go hS


set_option maxRecDepth 100000 in
theorem NetSent_calls (H : Type) (enc : TypeId × Value → H) (W : World) (base : Nat) (args : Array Value) (ds gs : List (DataW H)) (before : List MemPlace)
    (hval : ∀ (j : Nat) t v, Tryz.f3.params[j]? = some t → args[j]? = some v → Value.okWide Tryz.prog W .any base t v)
    (hW : DataW.Whole enc Tryz.prog Tryz.f3.params.toList Rows.netSentSpec.vars false W args.toList ds gs before) :
    Calls Tryz.prog 3 args W fun e W' => e = .returned (.bool true) ∧ Below W.heap.size W W' := by
  obtain ⟨p, q, hA, hV, rfl, hfz, hnd⟩ := hW
  rw [Tryz.params3] at hA hval
  obtain ⟨v0, vs0, d0, ds0, p0, q0, hargs, rfl, rfl, h0, r0⟩ := trodAll_cons hA
  obtain ⟨rfl, rfl, rfl⟩ := trodAll_nil r0
  obtain rfl : args = #[v0] := Array.toList_inj.1 hargs

  exact NetSent_walk v0 W (hval 0 22 v0 rfl rfl) h0

set_option maxRecDepth 100000 in
theorem NetSent_lifted (os : Os) (started : os.Started) (H : Type) (enc : TypeId × Value → H) :
    ReturnsInHanded {} Tryz.checked os 3 .any (Rows.netSentSpec.pre6 enc Tryz.prog Tryz.f3 Rows.netSentRow.domain false) (Rows.netSentSpec.post enc Tryz.prog Tryz.f3 false true false false) := by
  refine returnsInHanded_of_change (C := Tryz.checked) own started (by kernel_rfl) Tryz.func3
    (ChangeSpec.witness6 (enc := enc) (C := Tryz.checked) false ⟨#[], #[.slice none 0 0], []⟩ 8 (by kernel_rfl) (by kernel_rfl) (by kernel_rfl) (by kernel_rfl)) ?_
  intro W base args ds gs before hval0 hW hcnd _
  have hval : ∀ (j : Nat) t v, Tryz.f3.params[j]? = some t → args[j]? = some v → Value.okWide Tryz.prog W .any base t v := hval0
  refine (NetSent_calls H enc W base args ds gs before hval hW).mono fun e W' ⟨he, bel⟩ => ?_
  exact ⟨_, he, law_post (ts := [22]) (by rw [Tryz.params3]) (by intro t ht; simp only [List.mem_cons, List.not_mem_nil, or_false] at ht; subst ht <;> exact ⟨by kernel_rfl, of_decide_eq_true (by kernel_rfl)⟩) hW rfl
    (fun ds h => by match ds, h with | [_], _ => rfl) (by kernel_rfl) bel⟩

theorem NetSent_over : Rows.netSentRow.holds Tryz.pinned (OpenSpec.ofChange Rows.netSentSpec) :=
  OpenClaim.holds_of_wide 3 Tryz.f3 rfl rfl rfl rfl rfl rfl rfl ⟨rfl, rfl, rfl, rfl, rfl⟩ rfl rfl rfl rfl rfl (by kernel_rfl) Tryz.func3 (by kernel_rfl)
    (of_decide_eq_true (by kernel_rfl)) (by unfold Func.isWrapper; first | (rw [if_pos (by decide +kernel)]; kernel_rfl) | (rw [if_neg (by decide +kernel)]; exact ⟨rfl, rfl⟩))
    (fun os started H enc _ => NetSent_lifted os started H enc)

/-- The statement. -/
theorem NetSent_proved : Rows.NetSentSaid := NetSent_over

end Go.Proofs.YtnaabaahfjklhaaGreat
