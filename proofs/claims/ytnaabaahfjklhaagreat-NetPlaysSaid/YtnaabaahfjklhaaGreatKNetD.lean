/- A message taken out of a row of messages, in plain words. NetOrder: for every list of messages the law answers true. No condition. -/
import Derived.Test.YtnaabaahfjklhaaGreatKNetC
import Derived.Test.YtnaabaahfjklhaaGreatKNetB
import Derived.Test.YtnaabaahfjklhaaGreatKNetA
import Derived.Test.YtnaabaahfjklhaaGreatKWireO
namespace Go.Proofs.YtnaabaahfjklhaaGreat
open Go.RowKit Go.ChangeShapes Go.WideShapes Go.Joins Go.Deep
set_option linter.unusedVariables false

theorem flat_take {css : List (List Value)} (h : ∀ cs ∈ css, cs.length = 28) (q : Nat) : (css.take q).flatten = css.flatten.take (q * 28) ∧ (css.drop q).flatten = css.flatten.drop (q * 28) := by
  induction css generalizing q with
  | nil => simp
  | cons c css ih =>
    have hc := h c (by simp)
    cases q with
    | zero => simp
    | succ q =>
      obtain ⟨h1, h2⟩ := ih (fun x hx => h x (by simp [hx])) q
      have e : (q + 1) * 28 = c.length + q * 28 := by rw [hc]; omega
      rw [List.take_succ_cons, List.drop_succ_cons, List.flatten_cons, List.flatten_cons, h1, h2, e]
      refine ⟨?_, ?_⟩
      · rw [List.take_append]
        simp
        exact (List.take_of_length_le (by omega)).symm
      · rw [List.drop_append]
        simp
theorem MsgsO.erase {B : Nat} {w0 w' : World} {v' : Value} {Ms : List MsgV} {css : List (List Value)} {q : Nat} (h1 : css.length = Ms.length) (h3 : ∀ (i : Nat) (M : MsgV) (cs : List Value), Ms[i]? = some M → css[i]? = some cs → CellsOf w0 cs M)
    (h28 : ∀ cs ∈ css, cs.length = 28) (hq : q < Ms.length) (h2 : w'.ownsRow B 40 28 v' (Ms.length - 1) (css.flatten.take (q * 28) ++ css.flatten.drop ((q + 1) * 28))) : MsgsO B w0 w' v' (Ms.eraseIdx q) := by
  have hf : (css.eraseIdx q).flatten = css.flatten.take (q * 28) ++ css.flatten.drop ((q + 1) * 28) := by
    rw [List.eraseIdx_eq_take_drop_succ, List.flatten_append, (flat_take h28 q).1, (flat_take h28 (q + 1)).2]
  refine ⟨css.eraseIdx q, by rw [List.length_eraseIdx, List.length_eraseIdx, h1], ?_, fun i K ds hi hd => ?_⟩
  · rw [hf, List.length_eraseIdx, if_pos hq]
    exact h2
  · rw [List.getElem?_eraseIdx] at hi hd
    split at hi
    · rename_i h
      rw [if_pos h] at hd
      exact h3 _ _ _ hi hd
    · rename_i h
      rw [if_neg h] at hd
      exact h3 _ _ _ hi hd
theorem perm_cons_erase {L : List MsgV} {k : Nat} {M : MsgV} (hk : L[k]? = some M) : L.Perm (M :: L.eraseIdx k) := by
  obtain ⟨hkl, hj⟩ := List.getElem?_eq_some_iff.1 hk
  have h1 : L = L.take k ++ M :: L.drop (k + 1) := by
    rw [← hj, ← List.drop_eq_getElem_cons hkl, List.take_append_drop]
  rw [List.eraseIdx_eq_take_drop_succ]
  conv => lhs; rw [h1]
  exact List.perm_middle
end Go.Proofs.YtnaabaahfjklhaaGreat
namespace Go.Proofs.YtnaabaahfjklhaaGreat
open Go.RowKit Go.ChangeShapes Go.WideShapes Go.Joins Go.Deep
set_option linter.unusedVariables false

theorem sendN_cases (L : List MsgV) {M : MsgV} (hok : MOk M) : (∃ x, x ≠ 0 ∧ sendN L M = (L, x)) ∨ (Goes M ∧ sendN L M = (L ++ [M], 0)) := by
  obtain ⟨p, y, hp⟩ : ∃ p y, printM M = (p, y) := ⟨_, _, rfl⟩
  rcases goes_of hok hp with ⟨rfl, hG, rfl⟩ | hy
  · by_cases hl : 2000 ≤ L.length
    · exact .inl ⟨5, by decide, sendN_full hG hl⟩
    · exact .inr ⟨hG, sendN_some hG (by omega)⟩
  · exact .inl ⟨y, hy, by rw [sendN, hp, if_neg hy]⟩
theorem fold_from (cs : List Value) : ∀ (k : Nat) (init : Array Value) (pre rest : List Value), init.toList = pre ++ rest → pre.length = k → rest.length = cs.length →
    List.foldl (fun (a : Array Value) (x : Value × Nat) => a.setIfInBounds x.snd x.fst) init (cs.zipIdx k) = (pre ++ cs).toArray := by
  induction cs with
  | nil =>
    intro k init pre rest h1 h2 h3
    have : rest = [] := List.length_eq_zero_iff.1 (by simpa using h3)
    subst this
    simp only [List.zipIdx_nil, List.foldl_nil]
    rw [← h1]
  | cons c cs ih =>
    intro k init pre rest h1 h2 h3
    match rest, h3 with
    | r :: rest, h3 =>
      rw [List.zipIdx_cons, List.foldl_cons]
      have h4 := ih (k + 1) (init.setIfInBounds k c) (pre ++ [c]) rest (by
        rw [Array.toList_setIfInBounds, h1, List.set_append_right _ _ (by omega)]
        simp [h2]) (by simp [h2]) (by simpa using h3)
      rw [h4]
      simp
theorem fold_cells {cs : List Value} {init : Array Value} (h : init.size = cs.length) : List.foldl (fun (a : Array Value) (x : Value × Nat) => a.setIfInBounds x.snd x.fst) init cs.zipIdx = cs.toArray := by
  have := fold_from cs 0 init [] init.toList rfl rfl (by simpa using h)
  simpa using this
theorem place_zero (n : Nat) : placeN 0 n = 0 := by simp [placeN]
set_option maxRecDepth 100000 in
set_option maxHeartbeats 4000000 in

theorem NetOrder_go {w : World} {a : Option Addr} {cap : Nat} {Ms : List MsgV} (hMs : MsgsAt w a Ms) :
    Calls Tryz.prog 4 #[.slice a Ms.length cap] w fun e w' => e = .returned (.bool true) ∧ Below w.heap.size w w' := by
  obtain ⟨i0, hi0, hz0, hz1, hz2⟩ := info_parts msg_full
  have hml := hMs.1
  unfold maxLen at hml
  have HMS := Lib.hid hMs
  clear hMs
  go_enter Tryz.func4, Tryz.ntmps4
  go_wp2_with fail
  refine (awake_net _).mono ?_
  rintro en w1 ⟨rfl, hb⟩
  by_cases hlg : 300 < Ms.length
  · have hlg' : (300 : Int) < (Ms.length : Int) := by omega
    go_wp2_with fail
    refine (awake_net _).mono ?_
    rintro en w2 ⟨rfl, b2⟩
    have hb2 := below_step hb b2
    go_wp2_with fail
    go_ret
    exact ⟨rfl, hb2⟩
  · have hlg' : ¬ (300 : Int) < (Ms.length : Int) := by omega
    go_wp2_with fail
    refine (nnew_any _).mono ?_
    rintro en w2 ⟨b, rfl, hN, b2⟩
    have hbw : w.heap.size ≤ b := Nat.le_trans hb.size hN.1
    have hB : w.heap.size ≤ w1.heap.size := hb.size
    have hbq := below_step hb b2
    clear hb b2
    have hb := hbq
    clear hbq
    generalize w1.heap.size = B at *
    go_wp2_with fail
    go_loopw [4, 22] (fun s i wr => ∃ (k : Nat) (v sv : Value) (Ss : List MsgV), k ≤ Ms.length ∧ Ss.length ≤ k ∧ i = .int .i64 k ∧ sv = s ∧ NetAt B wr b v Ss Ss.length 0 ∧ MsgsO B w wr sv Ss ∧ Below w.heap.size w wr) (fun _ i _ => Ms.length - (intOf i).toNat)
    case atStart => exact ⟨0, _, _, [], Nat.zero_le _, Nat.zero_le _, rfl, rfl, hN, MsgsO.nil _ _ _, hb⟩
    case round =>
      obtain ⟨k, v, sv, Ss, hk, hSk, rfl, rfl, hNr, hSr, hbr⟩ := hrel
      clear hN hb
      have hN := hNr
      have hS := hSr
      have hb := hbr
      clear hNr hSr hbr
      obtain ⟨SA, Scap, rfl⟩ := hS.form
      by_cases hlt : k < Ms.length
      · have hlt' : (k : Int) < (Ms.length : Int) := by omega
        obtain ⟨M, hM⟩ : ∃ M, Ms[k]? = some M := ⟨_, List.getElem?_eq_getElem hlt⟩
        obtain ⟨F, off, rfl, hFl, hc⟩ := HMS.out.2.2 (by omega)
        obtain ⟨cs, hC, hcell⟩ := hc k M hM
        have hok := HMS.out.2.1 M (List.mem_of_getElem? hM)
        have hcl := hC.1
        have hcone := hC.2.1
        have hC0 := hC
        have hA : M.At wr (.agg cs.toArray) := hC.2.2.below hb
        have hrg : wr.rangeAt F (off + k * 28) cs := fun j u hj => (hb.cell (p := ⟨F, _, none⟩) hFl).trans (hcell j u hj)
        clear hc hcell hM hC
        have hBw : B ≤ wr.heap.size := by have := hN.lt; have := hN.1; omega
        have hX := BlkAt.new wr 40 [.int .i64 0, .int .i64 0, .int .i64 0, .int .i64 0, .int .i64 0, .int .i64 0, .int .i64 0, .int .i64 0, .int .i64 0, .int .i64 0, .bool false, .int .i64 0, .int .i64 0, .int .i64 0, .int .i64 0, .int .i64 0, .int .i64 0, .int .i64 0, .int .i64 0, .int .i64 0, .string ⟨#[]⟩, .int .i64 0, .int .i64 0, .int .i64 0, .int .i64 0, .slice none 0 0, .slice none 0 0, .int .i64 0]
        have HL1 := Lib.hid (show cs.length = ([.int .i64 0, .int .i64 0, .int .i64 0, .int .i64 0, .int .i64 0, .int .i64 0, .int .i64 0, .int .i64 0, .int .i64 0, .int .i64 0, .bool false, .int .i64 0, .int .i64 0, .int .i64 0, .int .i64 0, .int .i64 0, .int .i64 0, .int .i64 0, .int .i64 0, .int .i64 0, .string ⟨#[]⟩, .int .i64 0, .int .i64 0, .int .i64 0, .int .i64 0, .slice none 0 0, .slice none 0 0, .int .i64 0] : List Value).length by rw [hcl]; rfl)
        have b4 := (Below.refl wr.heap.size wr).alloc (Nat.le_refl _) (.cells #[.int .i64 0, .int .i64 0, .int .i64 0, .int .i64 0, .int .i64 0, .int .i64 0, .int .i64 0, .int .i64 0, .int .i64 0, .int .i64 0, .bool false, .int .i64 0, .int .i64 0, .int .i64 0, .int .i64 0, .int .i64 0, .int .i64 0, .int .i64 0, .int .i64 0, .int .i64 0, .string ⟨#[]⟩, .int .i64 0, .int .i64 0, .int .i64 0, .int .i64 0, .slice none 0 0, .slice none 0 0, .int .i64 0] 40)
        have G4 := grown_setCells wr.heap.size cs 0 (wr.alloc (.cells #[.int .i64 0, .int .i64 0, .int .i64 0, .int .i64 0, .int .i64 0, .int .i64 0, .int .i64 0, .int .i64 0, .int .i64 0, .int .i64 0, .bool false, .int .i64 0, .int .i64 0, .int .i64 0, .int .i64 0, .int .i64 0, .int .i64 0, .int .i64 0, .int .i64 0, .int .i64 0, .string ⟨#[]⟩, .int .i64 0, .int .i64 0, .int .i64 0, .int .i64 0, .slice none 0 0, .slice none 0 0, .int .i64 0] 40))
        have b5 := b4.grown G4 b4.size (by intro j hj; cases hj; exact Nat.le_refl _)
        have hMn := hX.stored (vs := cs) HL1.out
        have HT := Lib.hid (blk_there2 hX HL1.out)
        have hNn := hN.below b5
        clear hN
        have hN := hNn
        clear hNn
        have hSn := hS.below b5
        clear hS
        have hS := hSn
        clear hSn
        have hAn := hA.below b5
        clear hA
        have hA := hAn
        clear hAn
        have hbn := below_step hb b5
        clear hb
        have hb := hbn
        clear hbn
        clear hX b4 G4 b5 HL1
        go_upto_region 8 with (first | (refine wpList_store_mid rfl 40 (.tmp 6) (.tmp 25) rfl wr.heap.size 0 cs.toArray rfl rfl (by exact HT.out) (by rw [List.size_toArray, hcl]; exact msg_info) hcone ?_; rw [List.toList_toArray]) | (refine wpList_load_mid rfl 40 (.tmp 24) rfl F (off + k * 28) rfl cs _ hrg Tryz.underlying40 rfl (by rw [hcl]; exact msg_info) ?_; simp only [Act.put, List.setIfInBounds_toArray, List.set_cons_zero, List.set_cons_succ]))
        change Code.wp _ _ _ _ ((wr.alloc (.cells #[.int .i64 0, .int .i64 0, .int .i64 0, .int .i64 0, .int .i64 0, .int .i64 0, .int .i64 0, .int .i64 0, .int .i64 0, .int .i64 0, .bool false, .int .i64 0, .int .i64 0, .int .i64 0, .int .i64 0, .int .i64 0, .int .i64 0, .int .i64 0, .int .i64 0, .int .i64 0, .string ⟨#[]⟩, .int .i64 0, .int .i64 0, .int .i64 0, .int .i64 0, .slice none 0 0, .slice none 0 0, .int .i64 0] 40)).setCells wr.heap.size 0 cs)
        generalize (wr.alloc (.cells #[.int .i64 0, .int .i64 0, .int .i64 0, .int .i64 0, .int .i64 0, .int .i64 0, .int .i64 0, .int .i64 0, .int .i64 0, .int .i64 0, .bool false, .int .i64 0, .int .i64 0, .int .i64 0, .int .i64 0, .int .i64 0, .int .i64 0, .int .i64 0, .int .i64 0, .int .i64 0, .string ⟨#[]⟩, .int .i64 0, .int .i64 0, .int .i64 0, .int .i64 0, .slice none 0 0, .slice none 0 0, .int .i64 0] 40)).setCells wr.heap.size 0 cs = W1 at *
        have hM := hMn
        clear hMn HT
        obtain ⟨m, hLL⟩ : ∃ q, q = wr.heap.size := ⟨_, rfl⟩
        rw [← hLL] at hM ⊢
        have HEm := Lib.hid hLL
        clear hLL
        clear hrg
        have hmB : B ≤ m := by rw [HEm.out]; exact hBw
        cases hf : fewM M with
        | false =>
          have HF := Lib.hid hf
          clear hf
          go_wp2_with (refine wpList_load_mid rfl 40 (.tmp 6) rfl m 0 rfl cs _ hM.range Tryz.underlying40 rfl (by rw [hcl]; exact msg_info) ?_; simp only [Act.put, List.setIfInBounds_toArray, List.set_cons_zero, List.set_cons_succ])
          refine (qfew_any (by exact hA) hok.op HF.out).mono ?_
          rintro en w3 ⟨rfl, b3⟩
          have hb3 := below_step hb b3
          clear hN hS hA hM hb b3
          go_wp2_with fail
          go_ret
          exact ⟨rfl, hb3⟩
        | true =>
          have HF := Lib.hid hf
          have hfew := fewM_iff.1 hf
          clear hf
          go_wp2_with (refine wpList_load_mid rfl 40 (.tmp 6) rfl m 0 rfl cs _ hM.range Tryz.underlying40 rfl (by rw [hcl]; exact msg_info) ?_; simp only [Act.put, List.setIfInBounds_toArray, List.set_cons_zero, List.set_cons_succ])
          refine (qfew_any (by exact hA) hok.op HF.out).mono ?_
          rintro en w3 ⟨rfl, b3⟩
          have hNq := hN.below b3
          clear hN
          have hN := hNq
          clear hNq
          have hSq := hS.below b3
          clear hS
          have hS := hSq
          clear hSq
          have hAq := hA.below b3
          clear hA
          have hA := hAq
          clear hAq
          have hMq := hM.below b3
          clear hM
          have hM := hMq
          clear hMq
          have hbq := below_step hb b3
          clear hb
          have hb := hbq
          clear hbq b3
          have hv : ∀ j, v.ownBlock = some j → w.heap.size ≤ j := fun j hj => Nat.le_trans hB (hN.row j hj).1
          obtain ⟨css, hS1, hS2, hS3⟩ := hS
          have hsb : some b ≠ (Value.slice SA Ss.length Scap).ownBlock := own_apartN hN.2.1 hS2 (by decide)
          have hsv := own_two hS2 hN.2.2.1 (by decide)
          have hmb : m ≠ b := fun e => by
            have h1 : w3.heap[m]? = _ := hM
            rw [e, hN.2.1] at h1
            simp at h1
          have hmv : some m ≠ v.ownBlock := own_apartN (b := m) (T := 40) (cs := cs.toArray) (fr := (0, 0)) (by exact hM) hN.2.2.1 (by decide)
          rcases sendN_cases Ss hok with ⟨x, hx, hse⟩ | ⟨hG, hse⟩
          · have hxb : (x == 0) = false := by simpa using hx
            have HSE := Lib.hid hse
            clear hse
            go_wp2_with (refine wpList_load_mid rfl 40 (.tmp 6) rfl m 0 rfl cs _ hM.range Tryz.underlying40 rfl (by rw [hcl]; exact msg_info) ?_; simp only [Act.put, List.setIfInBounds_toArray, List.set_cons_zero, List.set_cons_succ])
            refine (nsend_any (by exact hN) (by omega) (by exact hA) hok (by omega) (by omega) HSE.out).mono ?_
            rintro en w4 ⟨rfl, v4, hN4, hk4, hr4⟩
            rw [sent_not hx] at hN4
            have HN := Lib.hid hN4
            have HS := Lib.hid (show MsgsO B w w4 (.slice SA Ss.length Scap) Ss from ⟨css, hS1, own_nkept hS2 hk4 hsb hsv, hS3⟩)
            have HB := Lib.hid (hk4.below hb hbw hv)
            clear hN hS2 hA hM hb hN4 hk4 hr4 hv hsb hsv hmb hmv
            go_wp2_with fail
            go_roundw
            case rel => exact ⟨k + 1, v4, _, Ss, by omega, by omega, by go_num, rfl, HN.out, HS.out, HB.out⟩
            case measure => simp [intOf]; omega
          · have HSE := Lib.hid hse
            clear hse
            go_wp2_with (refine wpList_load_mid rfl 40 (.tmp 6) rfl m 0 rfl cs _ hM.range Tryz.underlying40 rfl (by rw [hcl]; exact msg_info) ?_; simp only [Act.put, List.setIfInBounds_toArray, List.set_cons_zero, List.set_cons_succ])
            refine (nsend_any (by exact hN) (by omega) (by exact hA) hok (by omega) (by omega) HSE.out).mono ?_
            rintro en w4 ⟨rfl, v4, hN4, hk4, hr4⟩
            rw [sent_yes] at hN4
            have hb4 := hk4.below hb hbw hv
            have hS4 := own_nkept hS2 hk4 hsb hsv
            have hM4 := blk_nkept hM hk4 hmb hmv
            have hBw4 : B ≤ w4.heap.size := by have := hN4.lt; have := hN4.1; omega
            clear hN hS2 hA hM hb hk4 hr4 hv hsb hsv hmb hmv
            go_wp2_with (first | (refine wpList_load_mid rfl 40 (.tmp 6) rfl m 0 rfl cs _ hM4.range Tryz.underlying40 rfl (by rw [hcl]; exact msg_info) ?_; simp only [Act.put, List.setIfInBounds_toArray, List.set_cons_zero, List.set_cons_succ]) | (at_builtin; refine wpList_append_lies _ rfl (.tmp 33) (.tmp 35) 27 rfl B 40 i0 _ 28 264 Tryz.underlying27 hi0 hz0 hz1 hz2 rfl (by omega) _ _ _ rfl (hS4.alloc _) ⟨w4.heap.size, 0, none⟩ 1 1 cs rfl (by rw [hcl]) ?c1 ?c2 (by omega) ?c3 ?c4 ?c5 (w4.heap.size + 1) (by simp) ?_))
            case c1 =>
              intro j u hj
              refine World.news_of_block (heap_alloc_new _ _) j u ?_
              rw [fold_cells (by rw [hcl]; rfl)]
              simpa using hj
            case c2 => simpa [Array.all_eq_true_iff_forall_mem] using hcone
            case c3 => unfold maxLen; omega
            case c4 => omega
            case c5 => first | omega | (simp; omega)
            intro g' cap' w' hown' hg' hat' hlt3
            have hal := (Below.refl w4.heap.size w4).alloc (Nat.le_refl _) (.cells cs.toArray 40)
            rw [fold_cells (by rw [hcl]; rfl)] at hg'
            have hsb4 : some b ≠ (Value.slice SA Ss.length Scap).ownBlock := own_apartN hN4.2.1 hS4 (by decide)
            have hsv4 := own_two hN4.2.2.1 hS4 (by decide)
            have HN := Lib.hid ((hN4.below hal).grown hg' hsb4 hsv4)
            have HS := Lib.hid (MsgsO.snoc hS1 hS3 hown' hC0)
            have hb5 := below_step hb4 hal
            have HB := Lib.hid (hb5.grown hg' hb5.size (fun j hj => Nat.le_trans hB (hS4.lt j hj).1))
            clear hal hg' hat' hlt3 hown' hN4 hS4 hM4 hb4 hb5 hsb4 hsv4
            go_wp2_with fail
            go_roundw
            case rel => exact ⟨k + 1, v4, _, Ss ++ [M], by omega, by rw [List.length_append]; simp; omega, by go_num, rfl, by rw [List.length_append]; exact HN.out, HS.out, HB.out⟩
            case measure => simp [intOf]; omega
      · have hlt' : ¬ (k : Int) < (Ms.length : Int) := by omega
        have hSl : Ss.length ≤ 300 := by omega
        go_wp2_with fail
        clear hlt hlt'
        go_loopw [40] (fun i wr => ∃ (q : Nat) (v : Value), q ≤ Ss.length ∧ i = .int .i64 q ∧ NetAt B wr b v (Ss.drop q) Ss.length q ∧ MsgsO B w wr (.slice SA Ss.length Scap) Ss ∧ Below w.heap.size w wr) (fun i _ => Ss.length - (intOf i).toNat)
        case atStart => exact ⟨0, v, Nat.zero_le _, rfl, hN, hS, hb⟩
        case round =>
          obtain ⟨q, v, hq, rfl, hNr, hSr, hbr⟩ := hrel
          clear hN hS hb
          have hN := hNr
          have hS := hSr
          have hb := hbr
          clear hNr hSr hbr
          by_cases hlt : q < Ss.length
          · have hlt' : (q : Int) < (Ss.length : Int) := by omega
            obtain ⟨M, hM⟩ : ∃ M, Ss[q]? = some M := ⟨_, List.getElem?_eq_getElem hlt⟩
            obtain ⟨g, cs, rfl, hC, hcell⟩ := hS.at hM
            have hd0 : (Ss.drop q)[placeN 0 (Ss.drop q).length]? = some M := by rw [place_zero, List.getElem?_drop, Nat.add_zero]; exact hM
            have hdn : Ss.drop q ≠ [] := by
              intro e
              rw [e] at hd0
              simp at hd0
            have hde : takeN_ (Ss.drop q) 0 = Ss.drop (q + 1) := by
              unfold takeN_
              rw [place_zero, List.eraseIdx_zero, List.tail_drop]
            have hdl : (Ss.drop q).length ≤ 1000000 := by rw [List.length_drop]; omega
            have hG := hN.2.2.2 M (List.mem_of_getElem? hd0)
            have hcl := hC.1
            have hcone := hC.2.1
            have hA : M.At wr (.agg cs.toArray) := hC.2.2.below hb
            have hrg : wr.rangeAt g (q * 28) cs := hcell
            have hBw : B ≤ wr.heap.size := by have := hN.lt; have := hN.1; omega
            have HCC := Lib.hid hC
            clear hcell hC hM
            have hX := BlkAt.new wr 40 [.int .i64 0, .int .i64 0, .int .i64 0, .int .i64 0, .int .i64 0, .int .i64 0, .int .i64 0, .int .i64 0, .int .i64 0, .int .i64 0, .bool false, .int .i64 0, .int .i64 0, .int .i64 0, .int .i64 0, .int .i64 0, .int .i64 0, .int .i64 0, .int .i64 0, .int .i64 0, .string ⟨#[]⟩, .int .i64 0, .int .i64 0, .int .i64 0, .int .i64 0, .slice none 0 0, .slice none 0 0, .int .i64 0]
            have HL1 := Lib.hid (show cs.length = ([.int .i64 0, .int .i64 0, .int .i64 0, .int .i64 0, .int .i64 0, .int .i64 0, .int .i64 0, .int .i64 0, .int .i64 0, .int .i64 0, .bool false, .int .i64 0, .int .i64 0, .int .i64 0, .int .i64 0, .int .i64 0, .int .i64 0, .int .i64 0, .int .i64 0, .int .i64 0, .string ⟨#[]⟩, .int .i64 0, .int .i64 0, .int .i64 0, .int .i64 0, .slice none 0 0, .slice none 0 0, .int .i64 0] : List Value).length by rw [hcl]; rfl)
            have b4 := (Below.refl wr.heap.size wr).alloc (Nat.le_refl _) (.cells #[.int .i64 0, .int .i64 0, .int .i64 0, .int .i64 0, .int .i64 0, .int .i64 0, .int .i64 0, .int .i64 0, .int .i64 0, .int .i64 0, .bool false, .int .i64 0, .int .i64 0, .int .i64 0, .int .i64 0, .int .i64 0, .int .i64 0, .int .i64 0, .int .i64 0, .int .i64 0, .string ⟨#[]⟩, .int .i64 0, .int .i64 0, .int .i64 0, .int .i64 0, .slice none 0 0, .slice none 0 0, .int .i64 0] 40)
            have G4 := grown_setCells wr.heap.size cs 0 (wr.alloc (.cells #[.int .i64 0, .int .i64 0, .int .i64 0, .int .i64 0, .int .i64 0, .int .i64 0, .int .i64 0, .int .i64 0, .int .i64 0, .int .i64 0, .bool false, .int .i64 0, .int .i64 0, .int .i64 0, .int .i64 0, .int .i64 0, .int .i64 0, .int .i64 0, .int .i64 0, .int .i64 0, .string ⟨#[]⟩, .int .i64 0, .int .i64 0, .int .i64 0, .int .i64 0, .slice none 0 0, .slice none 0 0, .int .i64 0] 40))
            have b5 := b4.grown G4 b4.size (by intro j hj; cases hj; exact Nat.le_refl _)
            have hMn := hX.stored (vs := cs) HL1.out
            have HT := Lib.hid (blk_there2 hX HL1.out)
            have hNn := hN.below b5
            clear hN
            have hN := hNn
            clear hNn
            have hSn := hS.below b5
            clear hS
            have hS := hSn
            clear hSn
            have hAn := hA.below b5
            clear hA
            have hA := hAn
            clear hAn
            have hbn := below_step hb b5
            clear hb
            have hb := hbn
            clear hbn
            clear hX b4 G4 b5 HL1
            go_upto_region 16 with (first | (refine wpList_store_mid rfl 40 (.tmp 8) (.tmp 43) rfl wr.heap.size 0 cs.toArray rfl rfl (by exact HT.out) (by rw [List.size_toArray, hcl]; exact msg_info) hcone ?_; rw [List.toList_toArray]) | (refine wpList_load_mid rfl 40 (.tmp 42) rfl g (q * 28) rfl cs _ hrg Tryz.underlying40 rfl (by rw [hcl]; exact msg_info) ?_; simp only [Act.put, List.setIfInBounds_toArray, List.set_cons_zero, List.set_cons_succ]))
            change Code.wp _ _ _ _ ((wr.alloc (.cells #[.int .i64 0, .int .i64 0, .int .i64 0, .int .i64 0, .int .i64 0, .int .i64 0, .int .i64 0, .int .i64 0, .int .i64 0, .int .i64 0, .bool false, .int .i64 0, .int .i64 0, .int .i64 0, .int .i64 0, .int .i64 0, .int .i64 0, .int .i64 0, .int .i64 0, .int .i64 0, .string ⟨#[]⟩, .int .i64 0, .int .i64 0, .int .i64 0, .int .i64 0, .slice none 0 0, .slice none 0 0, .int .i64 0] 40)).setCells wr.heap.size 0 cs)
            generalize (wr.alloc (.cells #[.int .i64 0, .int .i64 0, .int .i64 0, .int .i64 0, .int .i64 0, .int .i64 0, .int .i64 0, .int .i64 0, .int .i64 0, .int .i64 0, .bool false, .int .i64 0, .int .i64 0, .int .i64 0, .int .i64 0, .int .i64 0, .int .i64 0, .int .i64 0, .int .i64 0, .int .i64 0, .string ⟨#[]⟩, .int .i64 0, .int .i64 0, .int .i64 0, .int .i64 0, .slice none 0 0, .slice none 0 0, .int .i64 0] 40)).setCells wr.heap.size 0 cs = W1 at *
            have hM := hMn
            clear hMn HT
            obtain ⟨m, hLL⟩ : ∃ q, q = wr.heap.size := ⟨_, rfl⟩
            rw [← hLL] at hM ⊢
            have HEm := Lib.hid hLL
            clear hLL
            clear hrg
            have hv : ∀ j, v.ownBlock = some j → w.heap.size ≤ j := fun j hj => Nat.le_trans hB (hN.row j hj).1
            have hsb : some b ≠ (Value.slice (some ⟨g, 0, none⟩) Ss.length Scap).ownBlock := by
              obtain ⟨css, _, h2, _⟩ := hS
              exact own_apartN hN.2.1 h2 (by decide)
            have hsv : (Value.slice (some ⟨g, 0, none⟩) Ss.length Scap).ownBlock = none ∨ (Value.slice (some ⟨g, 0, none⟩) Ss.length Scap).ownBlock ≠ v.ownBlock := by
              obtain ⟨css, _, h2, _⟩ := hS
              exact own_two h2 hN.2.2.1 (by decide)
            have hmb : m ≠ b := fun e => by
              have h1 : W1.heap[m]? = _ := hM
              rw [e, hN.2.1] at h1
              simp at h1
            have hmv : some m ≠ v.ownBlock := own_apartN (b := m) (T := 40) (cs := cs.toArray) (fr := (0, 0)) (by exact hM) hN.2.2.1 (by decide)
            go_wp2_with fail
            refine (ntake_any (by exact hN) hdn hdl (by omega) (W64.mk (by decide) (by decide)) hd0).mono ?_
            rintro en w4 ⟨u, v4, rfl, hF, hN4, hk4, hq4⟩
            obtain ⟨es, rfl, hel, heone, hF⟩ := From.parts hF hG.ok.op.1
            rw [hde] at hN4
            have hS4 := hS.nkept hk4 hsb hsv
            have hM4 := blk_nkept hM hk4 hmb hmv
            have hb4 := hk4.below hb hbw hv
            have hU := hF.at
            have hA4 : M.At w4 (.agg cs.toArray) := HCC.out.2.2.below hb4
            clear hN hS hM hb hk4 hF hA hsb hsv hmb hmv hv
            have hX := BlkAt.new w4 40 [.int .i64 0, .int .i64 0, .int .i64 0, .int .i64 0, .int .i64 0, .int .i64 0, .int .i64 0, .int .i64 0, .int .i64 0, .int .i64 0, .bool false, .int .i64 0, .int .i64 0, .int .i64 0, .int .i64 0, .int .i64 0, .int .i64 0, .int .i64 0, .int .i64 0, .int .i64 0, .string ⟨#[]⟩, .int .i64 0, .int .i64 0, .int .i64 0, .int .i64 0, .slice none 0 0, .slice none 0 0, .int .i64 0]
            have HL1 := Lib.hid (show es.length = ([.int .i64 0, .int .i64 0, .int .i64 0, .int .i64 0, .int .i64 0, .int .i64 0, .int .i64 0, .int .i64 0, .int .i64 0, .int .i64 0, .bool false, .int .i64 0, .int .i64 0, .int .i64 0, .int .i64 0, .int .i64 0, .int .i64 0, .int .i64 0, .int .i64 0, .int .i64 0, .string ⟨#[]⟩, .int .i64 0, .int .i64 0, .int .i64 0, .int .i64 0, .slice none 0 0, .slice none 0 0, .int .i64 0] : List Value).length by rw [hel]; rfl)
            have b4 := (Below.refl w4.heap.size w4).alloc (Nat.le_refl _) (.cells #[.int .i64 0, .int .i64 0, .int .i64 0, .int .i64 0, .int .i64 0, .int .i64 0, .int .i64 0, .int .i64 0, .int .i64 0, .int .i64 0, .bool false, .int .i64 0, .int .i64 0, .int .i64 0, .int .i64 0, .int .i64 0, .int .i64 0, .int .i64 0, .int .i64 0, .int .i64 0, .string ⟨#[]⟩, .int .i64 0, .int .i64 0, .int .i64 0, .int .i64 0, .slice none 0 0, .slice none 0 0, .int .i64 0] 40)
            have G4 := grown_setCells w4.heap.size es 0 (w4.alloc (.cells #[.int .i64 0, .int .i64 0, .int .i64 0, .int .i64 0, .int .i64 0, .int .i64 0, .int .i64 0, .int .i64 0, .int .i64 0, .int .i64 0, .bool false, .int .i64 0, .int .i64 0, .int .i64 0, .int .i64 0, .int .i64 0, .int .i64 0, .int .i64 0, .int .i64 0, .int .i64 0, .string ⟨#[]⟩, .int .i64 0, .int .i64 0, .int .i64 0, .int .i64 0, .slice none 0 0, .slice none 0 0, .int .i64 0] 40))
            have b5 := b4.grown G4 b4.size (by intro j hj; cases hj; exact Nat.le_refl _)
            have hYn := hX.stored (vs := es) HL1.out
            have HT := Lib.hid (blk_there2 hX HL1.out)
            have hN4n := hN4.below b5
            clear hN4
            have hN4 := hN4n
            clear hN4n
            have hS4n := hS4.below b5
            clear hS4
            have hS4 := hS4n
            clear hS4n
            have hM4n := hM4.below b5
            clear hM4
            have hM4 := hM4n
            clear hM4n
            have hUn := hU.below b5
            clear hU
            have hU := hUn
            clear hUn
            have hA4n := hA4.below b5
            clear hA4
            have hA4 := hA4n
            clear hA4n
            have hb4n := below_step hb4 b5
            clear hb4
            have hb4 := hb4n
            clear hb4n
            clear hX b4 G4 b5 HL1
            go_upto_region 17 with (first | (refine wpList_store_mid rfl 40 (.tmp 9) (.tmp 47) rfl w4.heap.size 0 es.toArray rfl rfl (by exact HT.out) (by rw [List.size_toArray, hel]; exact msg_info) heone ?_; rw [List.toList_toArray]))
            change Code.wp _ _ _ _ ((w4.alloc (.cells #[.int .i64 0, .int .i64 0, .int .i64 0, .int .i64 0, .int .i64 0, .int .i64 0, .int .i64 0, .int .i64 0, .int .i64 0, .int .i64 0, .bool false, .int .i64 0, .int .i64 0, .int .i64 0, .int .i64 0, .int .i64 0, .int .i64 0, .int .i64 0, .int .i64 0, .int .i64 0, .string ⟨#[]⟩, .int .i64 0, .int .i64 0, .int .i64 0, .int .i64 0, .slice none 0 0, .slice none 0 0, .int .i64 0] 40)).setCells w4.heap.size 0 es)
            generalize (w4.alloc (.cells #[.int .i64 0, .int .i64 0, .int .i64 0, .int .i64 0, .int .i64 0, .int .i64 0, .int .i64 0, .int .i64 0, .int .i64 0, .int .i64 0, .bool false, .int .i64 0, .int .i64 0, .int .i64 0, .int .i64 0, .int .i64 0, .int .i64 0, .int .i64 0, .int .i64 0, .int .i64 0, .string ⟨#[]⟩, .int .i64 0, .int .i64 0, .int .i64 0, .int .i64 0, .slice none 0 0, .slice none 0 0, .int .i64 0] 40)).setCells w4.heap.size 0 es = W4 at *
            have hY := hYn
            clear hYn HT
            obtain ⟨y, hLL⟩ : ∃ q, q = w4.heap.size := ⟨_, rfl⟩
            rw [← hLL] at hY ⊢
            have HEy := Lib.hid hLL
            clear hLL
            go_wp2_with (first | (refine wpList_load_want (by rfl) 40 (.tmp 9) rfl y 0 rfl es _ hY.range Tryz.underlying40 rfl (by rw [hel]; exact msg_info) ?_; simp only [Act.put, List.setIfInBounds_toArray, List.set_cons_zero, List.set_cons_succ]) | (refine wpList_load_want (by rfl) 40 (.tmp 8) rfl m 0 rfl cs _ hM4.range Tryz.underlying40 rfl (by rw [hcl]; exact msg_info) ?_; simp only [Act.put, List.setIfInBounds_toArray, List.set_cons_zero, List.set_cons_succ]))
            refine (qwsame_any (by exact hU) (by exact hA4) hG.ok.op.1 hG.ok.op.1).mono ?_
            rintro en w5 ⟨rfl, b5⟩
            rw [decide_eq_true (rfl : M = M)]
            have HN := Lib.hid (hN4.below b5)
            have HS := Lib.hid (hS4.below b5)
            have HB := Lib.hid (below_step hb4 b5)
            clear hN4 hS4 hM4 hU hA4 hY hb4 b5
            go_wp2_with fail
            go_roundw
            case rel => exact ⟨q + 1, v4, by omega, by go_num, HN.out, HS.out, HB.out⟩
            case measure => simp [intOf]; omega
          · have hq2 : q = Ss.length := by omega
            have hlt' : ¬ (q : Int) < (Ss.length : Int) := by omega
            rw [hq2, List.drop_length] at hN
            go_wp2_with fail
            refine (nlen_any (by exact hN)).mono ?_
            rintro en w5 ⟨rfl, rfl⟩
            go_wp2_with fail
            go_ret
            exact ⟨rfl, hb⟩
set_option maxRecDepth 100000 in
theorem NetOrder_walk {H : Type} {enc : TypeId × Value → H} {base : Nat} {d : DataW H} {p : List MemPlace} (v : Value) (w : World) (hv : Value.okWide Tryz.prog w .any base 27 v) (ht : DataW.Trod enc Tryz.prog w 0 (fun _ => true) true 27 v d p) :
    Calls Tryz.prog 4 #[v] w fun e w' => e = .returned (.bool true) ∧ Below w.heap.size w w' := by
  obtain ⟨a, Ms, cap, rfl, hMs⟩ := open_msgs hv ht
  exact NetOrder_go hMs


set_option maxRecDepth 100000 in
theorem NetOrder_calls (H : Type) (enc : TypeId × Value → H) (W : World) (base : Nat) (args : Array Value) (ds gs : List (DataW H)) (before : List MemPlace)
    (hval : ∀ (j : Nat) t v, Tryz.f4.params[j]? = some t → args[j]? = some v → Value.okWide Tryz.prog W .any base t v)
    (hW : DataW.Whole enc Tryz.prog Tryz.f4.params.toList Rows.netOrderSpec.vars false W args.toList ds gs before) :
    Calls Tryz.prog 4 args W fun e W' => e = .returned (.bool true) ∧ Below W.heap.size W W' := by
  obtain ⟨p, q, hA, hV, rfl, hfz, hnd⟩ := hW
  rw [Tryz.params4] at hA hval
  obtain ⟨v0, vs0, d0, ds0, p0, q0, hargs, rfl, rfl, h0, r0⟩ := trodAll_cons hA
  obtain ⟨rfl, rfl, rfl⟩ := trodAll_nil r0
  obtain rfl : args = #[v0] := Array.toList_inj.1 hargs

  exact NetOrder_walk v0 W (hval 0 27 v0 rfl rfl) h0

set_option maxRecDepth 100000 in
theorem NetOrder_lifted (os : Os) (started : os.Started) (H : Type) (enc : TypeId × Value → H) :
    ReturnsInHanded {} Tryz.checked os 4 .any (Rows.netOrderSpec.pre6 enc Tryz.prog Tryz.f4 Rows.netOrderRow.domain false) (Rows.netOrderSpec.post enc Tryz.prog Tryz.f4 false true false false) := by
  refine returnsInHanded_of_change (C := Tryz.checked) own started (by kernel_rfl) Tryz.func4
    (ChangeSpec.witness6 (enc := enc) (C := Tryz.checked) false ⟨#[], #[.slice none 0 0], []⟩ 8 (by kernel_rfl) (by kernel_rfl) (by kernel_rfl) (by kernel_rfl)) ?_
  intro W base args ds gs before hval0 hW hcnd _
  have hval : ∀ (j : Nat) t v, Tryz.f4.params[j]? = some t → args[j]? = some v → Value.okWide Tryz.prog W .any base t v := hval0
  refine (NetOrder_calls H enc W base args ds gs before hval hW).mono fun e W' ⟨he, bel⟩ => ?_
  exact ⟨_, he, law_post (ts := [27]) (by rw [Tryz.params4]) (by intro t ht; simp only [List.mem_cons, List.not_mem_nil, or_false] at ht; subst ht <;> exact ⟨by kernel_rfl, of_decide_eq_true (by kernel_rfl)⟩) hW rfl
    (fun ds h => by match ds, h with | [_], _ => rfl) (by kernel_rfl) bel⟩

theorem NetOrder_over : Rows.netOrderRow.holds Tryz.pinned (OpenSpec.ofChange Rows.netOrderSpec) :=
  OpenClaim.holds_of_wide 4 Tryz.f4 rfl rfl rfl rfl rfl rfl rfl ⟨rfl, rfl, rfl, rfl, rfl⟩ rfl rfl rfl rfl rfl (by kernel_rfl) Tryz.func4 (by kernel_rfl)
    (of_decide_eq_true (by kernel_rfl)) (by unfold Func.isWrapper; first | (rw [if_pos (by decide +kernel)]; kernel_rfl) | (rw [if_neg (by decide +kernel)]; exact ⟨rfl, rfl⟩))
    (fun os started H enc _ => NetOrder_lifted os started H enc)

/-- The statement. -/
theorem NetOrder_proved : Rows.NetOrderSaid := NetOrder_over

end Go.Proofs.YtnaabaahfjklhaaGreat
