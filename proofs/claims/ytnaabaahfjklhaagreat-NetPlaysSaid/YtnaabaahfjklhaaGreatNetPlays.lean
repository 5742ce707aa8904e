/- NetPlays: for every script the law answers true. No condition. -/
import Derived.Test.YtnaabaahfjklhaaGreatKNetE
namespace Go.Proofs.YtnaabaahfjklhaaGreat
open Go.RowKit Go.ChangeShapes Go.WideShapes Go.Joins Go.Deep
set_option linter.unusedVariables false

section
variable {B b : Nat} {w0 w w' : World} {v : Value} {L : List MsgV} {s t : Int}
theorem NetAt.nkept {c : Nat} {r : Option Nat} (h : NetAt B w b v L s t) (hk : NKept w w' c r) (hbc : b ≠ c) (hbr : some b ≠ r) (hc : some c ≠ v.ownBlock) (hr : v.ownBlock = none ∨ v.ownBlock ≠ r) : NetAt B w' b v L s t :=
  ⟨h.1, (hk.block b h.lt hbc hbr).trans h.2.1, own_nkept h.2.2.1 hk hc hr, h.2.2.2⟩
/-- The network and the document's lie apart. -/
structure Apart2 (b : Nat) (v : Value) (q : Nat) (qv : Value) : Prop where
  bq : b ≠ q
  bv : some b ≠ qv.ownBlock
  qv' : some q ≠ v.ownBlock
  nv : v.ownBlock = none ∨ v.ownBlock ≠ qv.ownBlock
  vn : qv.ownBlock = none ∨ qv.ownBlock ≠ v.ownBlock
theorem apart2 {B' q : Nat} {qv : Value} {L' : List MsgV} {s' t' : Int} (h : NetAt B w b v L s t) (g : QNetAt B' w0 w q qv L' s' t') : Apart2 b v q qv := by
  obtain ⟨_, g1, css, _, g2, _⟩ := g
  refine ⟨?_, own_apartN h.2.1 g2 (by decide), own_apartN g1 h.2.2.1 (by decide), own_two h.2.2.1 g2 (by decide), own_two g2 h.2.2.1 (by decide)⟩
  rintro rfl
  rw [h.2.1] at g1
  simp at g1
/-- The network turned: the document's stays. -/
theorem qstay {B' q : Nat} {qv : Value} {L' : List MsgV} {s' t' : Int} (h : NetAt B w b v L s t) (g : QNetAt B' w0 w q qv L' s' t') (hk : NKept w w' b v.ownBlock) : QNetAt B' w0 w' q qv L' s' t' :=
  have a := apart2 h g
  g.nkept hk a.bq.symm a.qv' a.bv a.vn
theorem nstay {B' q : Nat} {qv : Value} {L' : List MsgV} {s' t' : Int} (h : NetAt B w b v L s t) (g : QNetAt B' w0 w q qv L' s' t') (hk : NKept w w' q qv.ownBlock) : NetAt B w' b v L s t :=
  have a := apart2 h g
  h.nkept hk a.bq a.bv a.qv' a.nv
end
/-- A script's call's own variable lies apart from both. -/
theorem nop_stay {w w' : World} {m c : Nat} {ds cs : List Value} {T : TypeId} {r : Option Nat} (hm : BlkAt w m 42 ds) (hk : NKept w w' c r) (hc : w.heap[c]? = some (.cells cs.toArray T (0, 0))) (hT : T ≠ 42) (hr : some m ≠ r) : BlkAt w' m 42 ds := by
  refine blk_nkept hm hk ?_ hr
  rintro rfl
  unfold BlkAt at hm
  rw [hc] at hm
  simp only [Option.some.injEq, Obj.cells.injEq] at hm
  exact hT hm.2.1
theorem sendN_grow {L L' : List MsgV} {M : MsgV} {x : Int} (h : sendN L M = (L', x)) : L'.length ≤ L.length + 1 := by
  unfold sendN at h
  split at h
  · split at h
    · cases h; omega
    · cases h; simp
  · cases h; omega
theorem sentTo_le (s x : Int) : s ≤ sentTo s x ∧ sentTo s x ≤ s + 1 := by
  unfold sentTo
  split <;> omega
theorem dblN_grow {L L' : List MsgV} {i x : Int} (h : dblN L i = (L', x)) : L'.length ≤ L.length + 1 := by
  unfold dblN at h
  split at h
  · split at h
    · cases h; omega
    · cases h; simp
  · cases h; omega
theorem where_some (L : List MsgV) : (sendN L (whereM 7)).1 ≠ [] := by
  have g := whereM_goes (n := 7) (by decide)
  by_cases h : 2000 ≤ L.length
  · rw [sendN_full g h]
    rintro rfl
    simp at h
  · rw [sendN_some g (by omega)]
    simp

set_option maxRecDepth 100000 in
set_option maxHeartbeats 16000000 in

theorem NetPlays_go {w : World} {a : Option Addr} {cap : Nat} {S : List NOpV} (hS0 : NOpsAt w a S) :
    Calls Tryz.prog 7 #[.slice a S.length cap] w fun e w' => e = .returned (.bool true) ∧ Below w.heap.size w w' := by
  have hml := hS0.1
  unfold maxLen at hml
  have HMS := Lib.hid hS0
  go_enter Tryz.func7, Tryz.ntmps7
  go_wp2_with fail
  refine (awake_net _).mono ?_
  rintro en w1 ⟨rfl, hb⟩
  have hS1 : NOpsAt w1 a S := ⟨hS0.1, hS0.2.1, fun hp => by
    obtain ⟨b, off, ha, hlt, hc⟩ := hS0.2.2 hp
    refine ⟨b, off, ha, Nat.lt_of_lt_of_le hlt hb.size, fun i o hi => ?_⟩
    obtain ⟨cs, h1, h2⟩ := hc i o hi
    exact ⟨cs, h1.below hb, fun j u hj => (hb.cell (p := ⟨b, _, none⟩) hlt).trans (h2 j u hj)⟩⟩
  clear hS0
  go_wp2_with fail
  refine (nlong_any (by exact hS1)).mono ?_
  rintro en w1' ⟨qq, rfl, b1, hsm⟩
  have hbq := below_step hb b1
  clear hb b1 hS1
  have hb := hbq
  clear hbq
  cases qq with
  | true =>
    go_wp2_with fail
    refine (awake_net _).mono ?_
    rintro en w2 ⟨rfl, b2⟩
    have hb2 := below_step hb b2
    go_wp2_with fail
    go_ret
    exact ⟨rfl, hb2⟩
  | false =>
    obtain ⟨hl300, hfw⟩ := hsm rfl
    clear hsm
    have HFW := Lib.hid hfw
    clear hfw
    go_wp2_with fail
    refine (nnew_any _).mono ?_
    rintro en w2 ⟨b0, rfl, hN, b2⟩
    have hbw0 : w.heap.size ≤ b0 := Nat.le_trans hb.size hN.1
    have hB : w.heap.size ≤ w1'.heap.size := hb.size
    have hbq := below_step hb b2
    clear hb b2
    have hb := hbq
    clear hbq
    have hB2 : w1'.heap.size ≤ w2.heap.size := by have := hN.lt; have := hN.1; omega
    generalize w1'.heap.size = B at *
    go_upto_region 4 with (fail)
    have hX := BlkAt.new w2 59 [.slice none 0 0, .int .i64 0, .int .i64 0]
    have b4 := (Below.refl w2.heap.size w2).alloc (Nat.le_refl _) (.cells #[.slice none 0 0, .int .i64 0, .int .i64 0] 59)
    have hN4 := hN.below b4
    have hb4 := below_step hb b4
    clear hN hb b4
    change Code.wp _ _ _ _ (w2.alloc (.cells #[.slice none 0 0, .int .i64 0, .int .i64 0] 59))
    change BlkAt (w2.alloc (.cells #[.slice none 0 0, .int .i64 0, .int .i64 0] 59)) _ _ _ at hX
    generalize w2.alloc (.cells #[.slice none 0 0, .int .i64 0, .int .i64 0] 59) = w3 at *
    generalize w2.heap.size = q at *
    have hN := hN4
    have hb := hb4
    have hQ : QNetAt B w w3 q (.slice none 0 0) [] 0 0 := ⟨hB2, hX, MsgsO.nil _ _ _⟩
    have hqw : w.heap.size ≤ q := Nat.le_trans hB hB2
    clear hN4 hb4 hX
    go_wp2_with fail
    go_loopw [3, 30] (fun nv i wr => ∃ (k b : Nat) (v qv : Value) (Ls : List MsgV) (sN tN : Int) (Bn : Nat), k ≤ S.length ∧ Ls.length ≤ k ∧ (0 ≤ sN ∧ sN ≤ k) ∧ (0 ≤ tN ∧ tN ≤ k) ∧ nv = .pointer (some ⟨b, 0, none⟩) ∧ i = .int .i64 k ∧ w.heap.size ≤ Bn ∧ NetAt Bn wr b v Ls sN tN ∧ QNetAt B w wr q qv Ls sN tN ∧ Below w.heap.size w wr) (fun _ i _ => S.length - (intOf i).toNat)
    case atStart => exact ⟨0, b0, _, _, [], 0, 0, B, Nat.zero_le _, Nat.le_refl _, ⟨by decide, by decide⟩, ⟨by decide, by decide⟩, rfl, rfl, hB, hN, hQ, hb⟩
    case round =>
      obtain ⟨k, b, v, qv, Ls, sN, tN, Bn, hk, hLk, hsN, htN, rfl, rfl, hBn, hNr, hQr, hbr⟩ := hrel
      clear hN hb hQ
      have hN := hNr
      have hQ := hQr
      have hb := hbr
      clear hNr hQr hbr
      have hbw : w.heap.size ≤ b := Nat.le_trans hBn hN.1
      by_cases hlt : k < S.length
      · have hlt' : (k : Int) < (S.length : Int) := by omega
        obtain ⟨o, ho⟩ : ∃ o, S[k]? = some o := ⟨_, List.getElem?_eq_getElem hlt⟩
        have hok := HMS.out.2.1 o (List.mem_of_getElem? ho)
        have hfew := fewM_iff.1 (HFW.out o (List.mem_of_getElem? ho))
        obtain ⟨F, off, rfl, hFl, hc⟩ := HMS.out.2.2 (by omega)
        obtain ⟨cs, hC, hcell⟩ := hc k o ho
        obtain ⟨kd, nn, M⟩ := o
        have hokm : MOk M := hok.m
        have hwn : W64 nn := hok.n
        simp only at hfew hC
        have hcl := hC.1
        have hcone := hC.2.1
        obtain ⟨ds, hds⟩ : ∃ ds, ds = nopCells ⟨kd, nn, M⟩ cs := ⟨_, rfl⟩
        have hdl : ds.length = 30 := by rw [hds]; simp [nopCells, hcl]
        have hdone : ds.toArray.all (·.oneCell') = true := by
          have h1 := hcone
          rw [hds]
          simpa [nopCells, Value.oneCell', Array.all_eq_true_iff_forall_mem] using h1
        have hrg : wr.rangeAt F (off + k * 30) ds := fun j u hj => (hb.cell (p := ⟨F, _, none⟩) hFl).trans (hcell j u (by rw [← hds]; exact hj))
        have HC0 := Lib.hid hC
        have HRM : Hid (∀ m0 W, BlkAt W m0 42 ds → W.rangeAt m0 2 cs) := Lib.hid (fun m0 W h j u hj => h.cell (i := 2 + j) (by rw [hds, Nat.add_comm]; exact hj))
        clear hc hcell ho hok hC
        have hX := BlkAt.new wr 42 [.int .i64 0, .int .i64 0, .int .i64 0, .int .i64 0, .int .i64 0, .int .i64 0, .int .i64 0, .int .i64 0, .int .i64 0, .int .i64 0, .int .i64 0, .int .i64 0, .bool false, .int .i64 0, .int .i64 0, .int .i64 0, .int .i64 0, .int .i64 0, .int .i64 0, .int .i64 0, .int .i64 0, .int .i64 0, .string ⟨#[]⟩, .int .i64 0, .int .i64 0, .int .i64 0, .int .i64 0, .slice none 0 0, .slice none 0 0, .int .i64 0]
        have HL1 := Lib.hid (show ds.length = ([.int .i64 0, .int .i64 0, .int .i64 0, .int .i64 0, .int .i64 0, .int .i64 0, .int .i64 0, .int .i64 0, .int .i64 0, .int .i64 0, .int .i64 0, .int .i64 0, .bool false, .int .i64 0, .int .i64 0, .int .i64 0, .int .i64 0, .int .i64 0, .int .i64 0, .int .i64 0, .int .i64 0, .int .i64 0, .string ⟨#[]⟩, .int .i64 0, .int .i64 0, .int .i64 0, .int .i64 0, .slice none 0 0, .slice none 0 0, .int .i64 0] : List Value).length by rw [hdl]; rfl)
        have b4 := (Below.refl wr.heap.size wr).alloc (Nat.le_refl _) (.cells #[.int .i64 0, .int .i64 0, .int .i64 0, .int .i64 0, .int .i64 0, .int .i64 0, .int .i64 0, .int .i64 0, .int .i64 0, .int .i64 0, .int .i64 0, .int .i64 0, .bool false, .int .i64 0, .int .i64 0, .int .i64 0, .int .i64 0, .int .i64 0, .int .i64 0, .int .i64 0, .int .i64 0, .int .i64 0, .string ⟨#[]⟩, .int .i64 0, .int .i64 0, .int .i64 0, .int .i64 0, .slice none 0 0, .slice none 0 0, .int .i64 0] 42)
        have G4 := grown_setCells wr.heap.size ds 0 (wr.alloc (.cells #[.int .i64 0, .int .i64 0, .int .i64 0, .int .i64 0, .int .i64 0, .int .i64 0, .int .i64 0, .int .i64 0, .int .i64 0, .int .i64 0, .int .i64 0, .int .i64 0, .bool false, .int .i64 0, .int .i64 0, .int .i64 0, .int .i64 0, .int .i64 0, .int .i64 0, .int .i64 0, .int .i64 0, .int .i64 0, .string ⟨#[]⟩, .int .i64 0, .int .i64 0, .int .i64 0, .int .i64 0, .slice none 0 0, .slice none 0 0, .int .i64 0] 42))
        have b5 := b4.grown G4 b4.size (by intro j hj; cases hj; exact Nat.le_refl _)
        have hMn := hX.stored (vs := ds) HL1.out
        have HT := Lib.hid (blk_there2 hX HL1.out)
        have hNn := hN.below b5
        clear hN
        have hN := hNn
        clear hNn
        have hQn := hQ.below b5
        clear hQ
        have hQ := hQn
        clear hQn
        have hbn := below_step hb b5
        clear hb
        have hb := hbn
        clear hbn
        clear hX b4 G4 b5 HL1
        go_upto_region 7 with (first | (refine wpList_store_mid rfl 42 (.tmp 6) (.tmp 33) rfl wr.heap.size 0 ds.toArray rfl rfl (by exact HT.out) (by rw [List.size_toArray, hdl]; exact nop_info) hdone ?_; rw [List.toList_toArray]) | (refine wpList_load_mid rfl 42 (.tmp 32) rfl F (off + k * 30) rfl ds _ hrg Tryz.underlying42 rfl (by rw [hdl]; exact nop_info) ?_; simp only [Act.put, List.setIfInBounds_toArray, List.set_cons_zero, List.set_cons_succ]))
        change Code.wp _ _ _ _ ((wr.alloc (.cells #[.int .i64 0, .int .i64 0, .int .i64 0, .int .i64 0, .int .i64 0, .int .i64 0, .int .i64 0, .int .i64 0, .int .i64 0, .int .i64 0, .int .i64 0, .int .i64 0, .bool false, .int .i64 0, .int .i64 0, .int .i64 0, .int .i64 0, .int .i64 0, .int .i64 0, .int .i64 0, .int .i64 0, .int .i64 0, .string ⟨#[]⟩, .int .i64 0, .int .i64 0, .int .i64 0, .int .i64 0, .slice none 0 0, .slice none 0 0, .int .i64 0] 42)).setCells wr.heap.size 0 ds)
        generalize (wr.alloc (.cells #[.int .i64 0, .int .i64 0, .int .i64 0, .int .i64 0, .int .i64 0, .int .i64 0, .int .i64 0, .int .i64 0, .int .i64 0, .int .i64 0, .int .i64 0, .int .i64 0, .bool false, .int .i64 0, .int .i64 0, .int .i64 0, .int .i64 0, .int .i64 0, .int .i64 0, .int .i64 0, .int .i64 0, .int .i64 0, .string ⟨#[]⟩, .int .i64 0, .int .i64 0, .int .i64 0, .int .i64 0, .slice none 0 0, .slice none 0 0, .int .i64 0] 42)).setCells wr.heap.size 0 ds = W1 at *
        have hM := hMn
        clear hMn HT
        obtain ⟨m, hLL⟩ : ∃ q, q = wr.heap.size := ⟨_, rfl⟩
        rw [← hLL] at hM ⊢
        have HEm := Lib.hid hLL
        clear hLL
        clear hrg hdone
        have c0 : W1.cell? ⟨m, 0, none⟩ = some (.int .i64 kd) := hM.cell (by rw [hds]; rfl)
        have c1 : W1.cell? ⟨m, 1, none⟩ = some (.int .i64 nn) := hM.cell (by rw [hds]; rfl)
        have HC1 : Hid (∀ W, BlkAt W m 42 ds → W.cell? ⟨m, 1, none⟩ = some (.int .i64 nn)) := Lib.hid (fun W h => h.cell (by rw [hds]; rfl))
        have hv : ∀ j, v.ownBlock = some j → w.heap.size ≤ j := fun j hj => Nat.le_trans hBn (hN.row j hj).1
        have hqr : ∀ j, qv.ownBlock = some j → w.heap.size ≤ j := fun j hj => Nat.le_trans hB (hQ.row j hj).1
        have hmv : some m ≠ v.ownBlock := own_apartN (b := m) (T := 42) (cs := ds.toArray) (fr := (0, 0)) (by exact hM) hN.2.2.1 (by decide)
        have hmq : some m ≠ qv.ownBlock := by
          obtain ⟨_, _, css, _, g2, _⟩ := hQ
          exact own_apartN (b := m) (T := 42) (cs := ds.toArray) (fr := (0, 0)) (by exact hM) g2 (by decide)
        clear hds
        by_cases k1 : kd = 1
        · have b1 : (kd == 1) = true := by simpa using k1
          clear k1
          obtain ⟨L4, x4, hx4⟩ : ∃ L4 x4, sendN Ls M = (L4, x4) := ⟨_, _, rfl⟩
          have hgr := sendN_grow hx4
          have hst := sentTo_le sN x4
          have HX := Lib.hid hx4
          have HSB : Hid (0 ≤ sN ∧ sN ≤ 1000000000) := Lib.hid (by omega)
          have HLB : Hid (Ls.length ≤ 10000) := Lib.hid (by omega)
          have HF1 : Hid (M.cf.chain.length ≤ 1000) := Lib.hid (by omega)
          have HF2 : Hid (M.op.cron.length ≤ 10000) := Lib.hid (by omega)
          clear hx4 c1
          go_upto_region 13 with (fail)
          clear c0
          have bd : Below W1.heap.size W1 W1.drew := below_drewN (Below.refl _ _) 1
          have hNq := hN.below bd
          clear hN
          have hN := hNq
          clear hNq
          have hQq := hQ.below bd
          clear hQ
          have hQ := hQq
          clear hQq
          have hMq := hM.below bd
          clear hM
          have hM := hMq
          clear hMq
          have hbq := below_step hb bd
          clear hb
          have hb := hbq
          clear hbq bd
          refine wp_region_noPanic ?_
          refine wp_region_held_drew (S := (fun w' => BlkAt w' m 42 ds)) (by kernel_rfl) (by exact hM) (fun hHeld => ?_)
          refine wpAnyH_take (i := 0) (oi := ?oq_1_0) (v := ?va_1_0) ?op_1_0 (by kernel_rfl) (by kernel_rfl) (by kernel_rfl) (fun _ _ _ h => h) ?yi_1_0 hHeld ?re_1_0
          case op_1_0 => (simp only [List.getElem?_toArray, List.getElem?_cons_zero]; rfl)
          case yi_1_0 =>
            refine Or.inl ⟨by rfl, ?_⟩
            intro w hSw
            try dsimp only at hSw
            go_simp
            all_goals with_reducible rfl
          try simp only [Act.put, List.setIfInBounds_toArray, List.set_cons_zero, List.set_cons_succ]
          refine wpAnyH_take (i := 1) (oi := ?oq_1_1) (v := ?va_1_1) ?op_1_1 (by kernel_rfl) (by kernel_rfl) (by kernel_rfl) (fun _ _ _ h => h) ?yi_1_1 hHeld ?re_1_1
          case op_1_1 => (simp only [List.getElem?_toArray, List.getElem?_cons_succ, List.getElem?_cons_zero]; rfl)
          case yi_1_1 =>
            refine Or.inl ⟨by rfl, ?_⟩
            intro w hSw
            try dsimp only at hSw
            go_simp
            all_goals with_reducible rfl
          try simp only [Act.put, List.setIfInBounds_toArray, List.set_cons_zero, List.set_cons_succ]
          refine wpAnyH_take (i := 2) (oi := ?oq_1_2) (v := ?va_1_2) ?op_1_2 (by kernel_rfl) (by kernel_rfl) (by kernel_rfl) (fun _ _ _ h => h) ?yi_1_2 hHeld ?re_1_2
          case op_1_2 => (simp only [List.getElem?_toArray, List.getElem?_cons_succ, List.getElem?_cons_zero]; rfl)
          case yi_1_2 => exact (by
            refine yieldsIf_load_mid ?_ 40 (.tmp 47) ?_ m 2 ?_ cs _ ?_ Tryz.underlying40 ?_ (by rw [hcl]; exact msg_info)
            · rfl
            · rfl
            · rfl
            · intro w h
              have h : BlkAt w m 42 ds := h
              exact HRM.out m w h
            · rfl)
          try simp only [Act.put, List.setIfInBounds_toArray, List.set_cons_zero, List.set_cons_succ]
          refine wpAnyH_take (i := 4) (oi := ?oq_1_4) (v := ?va_1_4) ?op_1_4 (by kernel_rfl) (by kernel_rfl) (by kernel_rfl) (fun _ _ _ h => h) ?yi_1_4 hHeld ?re_1_4
          case op_1_4 => (simp only [List.getElem?_toArray, List.getElem?_cons_succ, List.getElem?_cons_zero]; rfl)
          case yi_1_4 =>
            refine Or.inl ⟨by rfl, ?_⟩
            intro w hSw
            try dsimp only at hSw
            go_simp
            all_goals with_reducible rfl
          try simp only [Act.put, List.setIfInBounds_toArray, List.set_cons_zero, List.set_cons_succ]
          refine wpAnyH_take (i := 5) (oi := ?oq_1_5) (v := ?va_1_5) ?op_1_5 (by kernel_rfl) (by kernel_rfl) (by kernel_rfl) (fun _ _ _ h => h) ?yi_1_5 hHeld ?re_1_5
          case op_1_5 => (simp only [List.getElem?_toArray, List.getElem?_cons_succ, List.getElem?_cons_zero]; rfl)
          case yi_1_5 =>
            refine Or.inl ⟨by rfl, ?_⟩
            intro w hSw
            try dsimp only at hSw
            go_simp
            all_goals with_reducible rfl
          try simp only [Act.put, List.setIfInBounds_toArray, List.set_cons_zero, List.set_cons_succ]
          refine wpAnyH_take (i := 6) (oi := ?oq_1_6) (v := ?va_1_6) ?op_1_6 (by kernel_rfl) (by kernel_rfl) (by kernel_rfl) (fun _ _ _ h => h) ?yi_1_6 hHeld ?re_1_6
          case op_1_6 => (simp only [List.getElem?_toArray, List.getElem?_cons_succ, List.getElem?_cons_zero]; rfl)
          case yi_1_6 => exact (by
            refine yieldsIf_load_mid ?_ 40 (.tmp 51) ?_ m 2 ?_ cs _ ?_ Tryz.underlying40 ?_ (by rw [hcl]; exact msg_info)
            · rfl
            · rfl
            · rfl
            · intro w h
              have h : BlkAt w m 42 ds := h
              exact HRM.out m w h
            · rfl)
          try simp only [Act.put, List.setIfInBounds_toArray, List.set_cons_zero, List.set_cons_succ]
          refine wpAnyH_ready (rs := [3]) (by kernel_rfl) (by simp) (AllReadyH.cons (o := ?oq_1_3) ?op_1_3 (fun K hK => ?re_1_3) AllReadyH.nil)
          case op_1_3 => (simp only [List.getElem?_toArray, List.getElem?_cons_succ, List.getElem?_cons_zero]; rfl)
          go_simp
          go_at_call 12
          refine (nsend_any (by exact hN) HSB.out (by exact HC0.out.2.2.below hb) hokm HF1.out HF2.out HX.out).mono ?_
          rintro en z1 ⟨rfl, v4, hN4, hk4, hr4⟩
          have hQx := qstay hN hQ hk4
          have hMx := nop_stay hM hk4 hN.2.1 (by decide) hmv
          have hbx := hk4.below hb hbw hv
          have hvx : ∀ j, v4.ownBlock = some j → w.heap.size ≤ j := fun j hj => by
            rcases hr4 j hj with h1 | h1
            · exact hv j h1
            · have := hb.size; omega
          have hmvx : some m ≠ v4.ownBlock := own_apartN (b := m) (T := 42) (cs := ds.toArray) (fr := (0, 0)) (by exact hMx) hN4.2.2.1 (by decide)
          clear hN hQ hM hb hv hmv hk4 hr4
          have hN := hN4
          have hQ := hQx
          have hM := hMx
          have hb := hbx
          have hv := hvx
          have hmv := hmvx
          clear hN4 hQx hMx hbx hvx hmvx
          refine hK.out _ _ (by exact hM) (fun hHeld => ?_)
          clear hK K
          try simp only [Act.put, List.setIfInBounds_toArray, List.set_cons_zero, List.set_cons_succ]
          refine wpAnyH_ready (rs := [7]) (by kernel_rfl) (by simp) (AllReadyH.cons (o := ?oq_1_7) ?op_1_7 (fun K hK => ?re_1_7) AllReadyH.nil)
          case op_1_7 => (simp only [List.getElem?_toArray, List.getElem?_cons_succ, List.getElem?_cons_zero]; rfl)
          go_simp
          go_at_call 20
          refine (qsend_any (by exact hQ) HSB.out (by exact HC0.out.2.2) (by exact HC0.out.2.2.below hb) hokm HLB.out HX.out).mono ?_
          rintro en z2 ⟨rfl, qv4, hQ4, hk4, hr4⟩
          have hNx := nstay hN hQ hk4
          have hMx := nop_stay hM hk4 hQ.2.1 (by decide) hmq
          have hbx := hk4.below hb hqw hqr
          have hqrx : ∀ j, qv4.ownBlock = some j → w.heap.size ≤ j := fun j hj => by
            rcases hr4 j hj with h1 | h1
            · exact hqr j h1
            · have := hb.size; omega
          clear hN hQ hM hb hqr hmq hk4 hr4
          have hN := hNx
          have hQ := hQ4
          have hM := hMx
          have hb := hbx
          have hqr := hqrx
          clear hNx hQ4 hMx hbx hqrx
          refine hK.out _ _ (by exact hM) (fun hHeld => ?_)
          clear hK K
          try simp only [Act.put, List.setIfInBounds_toArray, List.set_cons_zero, List.set_cons_succ]
          refine wpAnyH_take (i := 8) (oi := ?oq_1_8) (v := ?va_1_8) ?op_1_8 (by kernel_rfl) (by kernel_rfl) (by kernel_rfl) (fun _ _ _ h => h) ?yi_1_8 hHeld ?re_1_8
          case op_1_8 => (simp only [List.getElem?_toArray, List.getElem?_cons_succ, List.getElem?_cons_zero]; rfl)
          case yi_1_8 =>
            refine Or.inl ⟨by rfl, ?_⟩
            intro w hSw
            try dsimp only at hSw
            go_simp
            all_goals with_reducible rfl
          try simp only [Act.put, List.setIfInBounds_toArray, List.set_cons_zero, List.set_cons_succ]
          refine wpAnyH_done (by kernel_rfl) ?_ _
          refine NoPanic.normal ?_
          clear hM hmv hv hqr HF1 HF2
          go_wp2_with fail
          refine (ncounts_any (by exact hN)).mono ?_
          rintro en w7 ⟨rfl, nn7, hw7⟩
          have HN := Lib.hid (show NetAt Bn w7 b v4 L4 (sentTo sN x4) tN by rw [hw7]; exact hN.drewN nn7)
          have HQ := Lib.hid (show QNetAt B w w7 q qv4 L4 (sentTo sN x4) tN by rw [hw7]; exact hQ.below (below_drewN (Below.refl _ _) nn7))
          have HB := Lib.hid (show Below w.heap.size w w7 by rw [hw7]; exact below_drewN hb nn7)
          clear hN hQ hb hw7
          obtain ⟨QA, Qcap, hqf⟩ := HQ.out.form
          have q0 := HQ.out.cell0
          have q1 := HQ.out.cell1
          have q2 := HQ.out.cell2
          rw [hqf] at q0
          have HQF := Lib.hid hqf
          clear hqf
          go_wp2_with fail
          go_quiet (first | (go_at_call 15; exact quiet_left (nlen_any (HN.out.drewN _))))
          go_wp2_with fail
          go_roundw
          case rel => exact ⟨k + 1, b, v4, qv4, L4, (sentTo sN x4), tN, Bn, by omega, by omega, by omega, by omega, rfl, by go_num, hBn, HN.out.drewN _, HQ.out.below (below_drewN (Below.refl _ _) _), below_drewN HB.out _⟩
          case measure => simp [intOf]; omega
        · have b1 : (kd == 1) = false := by simpa using k1
          by_cases k2 : kd = 2
          · have b2 : (kd == 2) = true := by simpa using k2
            clear k1 k2
            by_cases hLn : Ls = []
            · subst hLn
              go_wp2_with fail
              refine (ntake_none (by exact hN) nn).mono ?_
              rintro en w4 ⟨u, rfl, hF, b4⟩
              obtain ⟨es, rfl, hel, heone, hF⟩ := From.parts hF rfl
              have hNq := hN.below b4
              clear hN
              have hN := hNq
              clear hNq
              have hQq := hQ.below b4
              clear hQ
              have hQ := hQq
              clear hQq
              have hMq := hM.below b4
              clear hM
              have hM := hMq
              clear hMq
              have hbq := below_step hb b4
              clear hb
              have hb := hbq
              clear hbq b4
              have hX := BlkAt.new w4 40 [.int .i64 0, .int .i64 0, .int .i64 0, .int .i64 0, .int .i64 0, .int .i64 0, .int .i64 0, .int .i64 0, .int .i64 0, .int .i64 0, .bool false, .int .i64 0, .int .i64 0, .int .i64 0, .int .i64 0, .int .i64 0, .int .i64 0, .int .i64 0, .int .i64 0, .int .i64 0, .string ⟨#[]⟩, .int .i64 0, .int .i64 0, .int .i64 0, .int .i64 0, .slice none 0 0, .slice none 0 0, .int .i64 0]
              have HL1 := Lib.hid (show es.length = ([.int .i64 0, .int .i64 0, .int .i64 0, .int .i64 0, .int .i64 0, .int .i64 0, .int .i64 0, .int .i64 0, .int .i64 0, .int .i64 0, .bool false, .int .i64 0, .int .i64 0, .int .i64 0, .int .i64 0, .int .i64 0, .int .i64 0, .int .i64 0, .int .i64 0, .int .i64 0, .string ⟨#[]⟩, .int .i64 0, .int .i64 0, .int .i64 0, .int .i64 0, .slice none 0 0, .slice none 0 0, .int .i64 0] : List Value).length by rw [hel]; rfl)
              have b4 := (Below.refl w4.heap.size w4).alloc (Nat.le_refl _) (.cells #[.int .i64 0, .int .i64 0, .int .i64 0, .int .i64 0, .int .i64 0, .int .i64 0, .int .i64 0, .int .i64 0, .int .i64 0, .int .i64 0, .bool false, .int .i64 0, .int .i64 0, .int .i64 0, .int .i64 0, .int .i64 0, .int .i64 0, .int .i64 0, .int .i64 0, .int .i64 0, .string ⟨#[]⟩, .int .i64 0, .int .i64 0, .int .i64 0, .int .i64 0, .slice none 0 0, .slice none 0 0, .int .i64 0] 40)
              have G4 := grown_setCells w4.heap.size es 0 (w4.alloc (.cells #[.int .i64 0, .int .i64 0, .int .i64 0, .int .i64 0, .int .i64 0, .int .i64 0, .int .i64 0, .int .i64 0, .int .i64 0, .int .i64 0, .bool false, .int .i64 0, .int .i64 0, .int .i64 0, .int .i64 0, .int .i64 0, .int .i64 0, .int .i64 0, .int .i64 0, .int .i64 0, .string ⟨#[]⟩, .int .i64 0, .int .i64 0, .int .i64 0, .int .i64 0, .slice none 0 0, .slice none 0 0, .int .i64 0] 40))
              have b5 := b4.grown G4 b4.size (by intro j hj; cases hj; exact Nat.le_refl _)
              have hYn := hX.stored (vs := es) HL1.out
              have HT := Lib.hid (blk_there2 hX HL1.out)
              have hNn := hN.below b5
              clear hN
              have hN := hNn
              clear hNn
              have hQn := hQ.below b5
              clear hQ
              have hQ := hQn
              clear hQn
              have hMn := hM.below b5
              clear hM
              have hM := hMn
              clear hMn
              have hFn := hF.below b5
              clear hF
              have hF := hFn
              clear hFn
              have hbn := below_step hb b5
              clear hb
              have hb := hbn
              clear hbn
              clear hX b4 G4 b5 HL1
              go_upto_region 17 with (first | (refine wpList_store_mid rfl 40 (.tmp 7) (.tmp 62) rfl w4.heap.size 0 es.toArray rfl rfl (by exact HT.out) (by rw [List.size_toArray, hel]; exact msg_info) heone ?_; rw [List.toList_toArray]))
              change Code.wp _ _ _ _ ((w4.alloc (.cells #[.int .i64 0, .int .i64 0, .int .i64 0, .int .i64 0, .int .i64 0, .int .i64 0, .int .i64 0, .int .i64 0, .int .i64 0, .int .i64 0, .bool false, .int .i64 0, .int .i64 0, .int .i64 0, .int .i64 0, .int .i64 0, .int .i64 0, .int .i64 0, .int .i64 0, .int .i64 0, .string ⟨#[]⟩, .int .i64 0, .int .i64 0, .int .i64 0, .int .i64 0, .slice none 0 0, .slice none 0 0, .int .i64 0] 40)).setCells w4.heap.size 0 es)
              generalize (w4.alloc (.cells #[.int .i64 0, .int .i64 0, .int .i64 0, .int .i64 0, .int .i64 0, .int .i64 0, .int .i64 0, .int .i64 0, .int .i64 0, .int .i64 0, .bool false, .int .i64 0, .int .i64 0, .int .i64 0, .int .i64 0, .int .i64 0, .int .i64 0, .int .i64 0, .int .i64 0, .int .i64 0, .string ⟨#[]⟩, .int .i64 0, .int .i64 0, .int .i64 0, .int .i64 0, .slice none 0 0, .slice none 0 0, .int .i64 0] 40)).setCells w4.heap.size 0 es = W4 at *
              have hY := hYn
              clear hYn HT
              obtain ⟨y, hLL⟩ : ∃ q, q = w4.heap.size := ⟨_, rfl⟩
              rw [← hLL] at hY ⊢
              have HEy := Lib.hid hLL
              clear hLL
              have c1 := HC1.out _ hM
              go_wp2_with fail
              refine (qtake_none (by exact hQ) nn).mono ?_
              rintro en w5 ⟨u2, rfl, hF2, b5⟩
              obtain ⟨fs, rfl, hfl, hfone, hF2⟩ := At.parts hF2 rfl
              have hNq := hN.below b5
              clear hN
              have hN := hNq
              clear hNq
              have hQq := hQ.below b5
              clear hQ
              have hQ := hQq
              clear hQq
              have hFq := hF.below b5
              clear hF
              have hF := hFq
              clear hFq
              have hYq := hY.below b5
              clear hY
              have hY := hYq
              clear hYq
              have hbq := below_step hb b5
              clear hb
              have hb := hbq
              clear hbq b5
              have hX := BlkAt.new w5 40 [.int .i64 0, .int .i64 0, .int .i64 0, .int .i64 0, .int .i64 0, .int .i64 0, .int .i64 0, .int .i64 0, .int .i64 0, .int .i64 0, .bool false, .int .i64 0, .int .i64 0, .int .i64 0, .int .i64 0, .int .i64 0, .int .i64 0, .int .i64 0, .int .i64 0, .int .i64 0, .string ⟨#[]⟩, .int .i64 0, .int .i64 0, .int .i64 0, .int .i64 0, .slice none 0 0, .slice none 0 0, .int .i64 0]
              have HL1 := Lib.hid (show fs.length = ([.int .i64 0, .int .i64 0, .int .i64 0, .int .i64 0, .int .i64 0, .int .i64 0, .int .i64 0, .int .i64 0, .int .i64 0, .int .i64 0, .bool false, .int .i64 0, .int .i64 0, .int .i64 0, .int .i64 0, .int .i64 0, .int .i64 0, .int .i64 0, .int .i64 0, .int .i64 0, .string ⟨#[]⟩, .int .i64 0, .int .i64 0, .int .i64 0, .int .i64 0, .slice none 0 0, .slice none 0 0, .int .i64 0] : List Value).length by rw [hfl]; rfl)
              have b4 := (Below.refl w5.heap.size w5).alloc (Nat.le_refl _) (.cells #[.int .i64 0, .int .i64 0, .int .i64 0, .int .i64 0, .int .i64 0, .int .i64 0, .int .i64 0, .int .i64 0, .int .i64 0, .int .i64 0, .bool false, .int .i64 0, .int .i64 0, .int .i64 0, .int .i64 0, .int .i64 0, .int .i64 0, .int .i64 0, .int .i64 0, .int .i64 0, .string ⟨#[]⟩, .int .i64 0, .int .i64 0, .int .i64 0, .int .i64 0, .slice none 0 0, .slice none 0 0, .int .i64 0] 40)
              have G4 := grown_setCells w5.heap.size fs 0 (w5.alloc (.cells #[.int .i64 0, .int .i64 0, .int .i64 0, .int .i64 0, .int .i64 0, .int .i64 0, .int .i64 0, .int .i64 0, .int .i64 0, .int .i64 0, .bool false, .int .i64 0, .int .i64 0, .int .i64 0, .int .i64 0, .int .i64 0, .int .i64 0, .int .i64 0, .int .i64 0, .int .i64 0, .string ⟨#[]⟩, .int .i64 0, .int .i64 0, .int .i64 0, .int .i64 0, .slice none 0 0, .slice none 0 0, .int .i64 0] 40))
              have b5 := b4.grown G4 b4.size (by intro j hj; cases hj; exact Nat.le_refl _)
              have hZn := hX.stored (vs := fs) HL1.out
              have HT := Lib.hid (blk_there2 hX HL1.out)
              have hNn := hN.below b5
              clear hN
              have hN := hNn
              clear hNn
              have hQn := hQ.below b5
              clear hQ
              have hQ := hQn
              clear hQn
              have hFn := hF.below b5
              clear hF
              have hF := hFn
              clear hFn
              have hYn := hY.below b5
              clear hY
              have hY := hYn
              clear hYn
              have hF2n := hF2.below b5
              clear hF2
              have hF2 := hF2n
              clear hF2n
              have hbn := below_step hb b5
              clear hb
              have hb := hbn
              clear hbn
              clear hX b4 G4 b5 HL1
              go_upto_region 18 with (first | (refine wpList_store_mid rfl 40 (.tmp 9) (.tmp 69) rfl w5.heap.size 0 fs.toArray rfl rfl (by exact HT.out) (by rw [List.size_toArray, hfl]; exact msg_info) hfone ?_; rw [List.toList_toArray]))
              change Code.wp _ _ _ _ ((w5.alloc (.cells #[.int .i64 0, .int .i64 0, .int .i64 0, .int .i64 0, .int .i64 0, .int .i64 0, .int .i64 0, .int .i64 0, .int .i64 0, .int .i64 0, .bool false, .int .i64 0, .int .i64 0, .int .i64 0, .int .i64 0, .int .i64 0, .int .i64 0, .int .i64 0, .int .i64 0, .int .i64 0, .string ⟨#[]⟩, .int .i64 0, .int .i64 0, .int .i64 0, .int .i64 0, .slice none 0 0, .slice none 0 0, .int .i64 0] 40)).setCells w5.heap.size 0 fs)
              generalize (w5.alloc (.cells #[.int .i64 0, .int .i64 0, .int .i64 0, .int .i64 0, .int .i64 0, .int .i64 0, .int .i64 0, .int .i64 0, .int .i64 0, .int .i64 0, .bool false, .int .i64 0, .int .i64 0, .int .i64 0, .int .i64 0, .int .i64 0, .int .i64 0, .int .i64 0, .int .i64 0, .int .i64 0, .string ⟨#[]⟩, .int .i64 0, .int .i64 0, .int .i64 0, .int .i64 0, .slice none 0 0, .slice none 0 0, .int .i64 0] 40)).setCells w5.heap.size 0 fs = W5 at *
              have hZ := hZn
              clear hZn HT
              obtain ⟨z, hLL⟩ : ∃ q, q = w5.heap.size := ⟨_, rfl⟩
              rw [← hLL] at hZ ⊢
              have HEz := Lib.hid hLL
              clear hLL
              clear hM hmv hmq hv hqr c0 c1
              go_wp2_with (first | (refine wpList_load_mid rfl 40 (.tmp 7) rfl y 0 rfl es _ hY.range Tryz.underlying40 rfl (by rw [hel]; exact msg_info) ?_; simp only [Act.put, List.setIfInBounds_toArray, List.set_cons_zero, List.set_cons_succ]) | (refine wpList_load_mid rfl 40 (.tmp 9) rfl z 0 rfl fs _ hZ.range Tryz.underlying40 rfl (by rw [hfl]; exact msg_info) ?_; simp only [Act.put, List.setIfInBounds_toArray, List.set_cons_zero, List.set_cons_succ]))
              refine (qwsame_any (by exact hF.at) (by exact hF2) rfl rfl).mono ?_
              rintro en w6 ⟨rfl, b6⟩
              rw [decide_eq_true (rfl : msgZero = msgZero)]
              have hNq := hN.below b6
              clear hN
              have hN := hNq
              clear hNq
              have hQq := hQ.below b6
              clear hQ
              have hQ := hQq
              clear hQq
              have hbq := below_step hb b6
              clear hb
              have hb := hbq
              clear hbq b6
              clear hF hF2 hY hZ
              go_wp2_with fail
              refine (ncounts_any (by exact hN)).mono ?_
              rintro en w7 ⟨rfl, nn7, hw7⟩
              have HN := Lib.hid (show NetAt Bn w7 b v [] sN tN by rw [hw7]; exact hN.drewN nn7)
              have HQ := Lib.hid (show QNetAt B w w7 q qv [] sN tN by rw [hw7]; exact hQ.below (below_drewN (Below.refl _ _) nn7))
              have HB := Lib.hid (show Below w.heap.size w w7 by rw [hw7]; exact below_drewN hb nn7)
              clear hN hQ hb hw7
              obtain ⟨QA, Qcap, hqf⟩ := HQ.out.form
              have q0 := HQ.out.cell0
              have q1 := HQ.out.cell1
              have q2 := HQ.out.cell2
              rw [hqf] at q0
              have HQF := Lib.hid hqf
              clear hqf
              go_wp2_with fail
              go_quiet (first | (go_at_call 15; exact quiet_left (nlen_any (HN.out.drewN _))))
              go_wp2_with fail
              go_roundw
              case rel => exact ⟨k + 1, b, v, qv, [], sN, tN, Bn, by omega, by simp, by omega, by omega, rfl, by go_num, hBn, HN.out.drewN _, HQ.out.below (below_drewN (Below.refl _ _) _), below_drewN HB.out _⟩
              case measure => simp [intOf]; omega
            · obtain ⟨T, hT⟩ := place_some hLn nn
              have hG := hN.goes hT
              have hTl : (takeN_ Ls nn).length = Ls.length - 1 := ntakeN_len hLn nn
              go_wp2_with fail
              refine (ntake_any (by exact hN) hLn (by omega) (by omega) hwn hT).mono ?_
              rintro en w4 ⟨u, v4, rfl, hF, hN4, hk4, hq4⟩
              obtain ⟨es, rfl, hel, heone, hF⟩ := From.parts hF hG.ok.op.1
              have hQx := qstay hN hQ hk4
              have hMx := nop_stay hM hk4 hN.2.1 (by decide) hmv
              have hbx := hk4.below hb hbw hv
              have hvx : ∀ j, v4.ownBlock = some j → w.heap.size ≤ j := fun j hj => hv j (by rw [← hq4]; exact hj)
              have hqs : q < W1.heap.size := hQ.lt
              have hqvs : ∀ j, qv.ownBlock = some j → j < W1.heap.size := fun j hj => (hQ.row j hj).2
              have hs4 := hk4.size
              generalize W1.heap.size = H1 at hF hqs hqvs hs4
              have HT := Lib.hid hT
              clear hN hQ hM hb hk4 hv hmv hT c0 c1 hq4
              have hN := hN4
              have hQ := hQx
              have hM := hMx
              have hb := hbx
              clear hN4 hQx hMx hbx
              have hX := BlkAt.new w4 40 [.int .i64 0, .int .i64 0, .int .i64 0, .int .i64 0, .int .i64 0, .int .i64 0, .int .i64 0, .int .i64 0, .int .i64 0, .int .i64 0, .bool false, .int .i64 0, .int .i64 0, .int .i64 0, .int .i64 0, .int .i64 0, .int .i64 0, .int .i64 0, .int .i64 0, .int .i64 0, .string ⟨#[]⟩, .int .i64 0, .int .i64 0, .int .i64 0, .int .i64 0, .slice none 0 0, .slice none 0 0, .int .i64 0]
              have HL1 := Lib.hid (show es.length = ([.int .i64 0, .int .i64 0, .int .i64 0, .int .i64 0, .int .i64 0, .int .i64 0, .int .i64 0, .int .i64 0, .int .i64 0, .int .i64 0, .bool false, .int .i64 0, .int .i64 0, .int .i64 0, .int .i64 0, .int .i64 0, .int .i64 0, .int .i64 0, .int .i64 0, .int .i64 0, .string ⟨#[]⟩, .int .i64 0, .int .i64 0, .int .i64 0, .int .i64 0, .slice none 0 0, .slice none 0 0, .int .i64 0] : List Value).length by rw [hel]; rfl)
              have b4 := (Below.refl w4.heap.size w4).alloc (Nat.le_refl _) (.cells #[.int .i64 0, .int .i64 0, .int .i64 0, .int .i64 0, .int .i64 0, .int .i64 0, .int .i64 0, .int .i64 0, .int .i64 0, .int .i64 0, .bool false, .int .i64 0, .int .i64 0, .int .i64 0, .int .i64 0, .int .i64 0, .int .i64 0, .int .i64 0, .int .i64 0, .int .i64 0, .string ⟨#[]⟩, .int .i64 0, .int .i64 0, .int .i64 0, .int .i64 0, .slice none 0 0, .slice none 0 0, .int .i64 0] 40)
              have G4 := grown_setCells w4.heap.size es 0 (w4.alloc (.cells #[.int .i64 0, .int .i64 0, .int .i64 0, .int .i64 0, .int .i64 0, .int .i64 0, .int .i64 0, .int .i64 0, .int .i64 0, .int .i64 0, .bool false, .int .i64 0, .int .i64 0, .int .i64 0, .int .i64 0, .int .i64 0, .int .i64 0, .int .i64 0, .int .i64 0, .int .i64 0, .string ⟨#[]⟩, .int .i64 0, .int .i64 0, .int .i64 0, .int .i64 0, .slice none 0 0, .slice none 0 0, .int .i64 0] 40))
              have b5 := b4.grown G4 b4.size (by intro j hj; cases hj; exact Nat.le_refl _)
              have hYn := hX.stored (vs := es) HL1.out
              have HT := Lib.hid (blk_there2 hX HL1.out)
              have hNn := hN.below b5
              clear hN
              have hN := hNn
              clear hNn
              have hQn := hQ.below b5
              clear hQ
              have hQ := hQn
              clear hQn
              have hMn := hM.below b5
              clear hM
              have hM := hMn
              clear hMn
              have hFn := hF.below b5
              clear hF
              have hF := hFn
              clear hFn
              have hbn := below_step hb b5
              clear hb
              have hb := hbn
              clear hbn
              clear hX b4 G4 b5 HL1
              go_upto_region 17 with (first | (refine wpList_store_mid rfl 40 (.tmp 7) (.tmp 62) rfl w4.heap.size 0 es.toArray rfl rfl (by exact HT.out) (by rw [List.size_toArray, hel]; exact msg_info) heone ?_; rw [List.toList_toArray]))
              change Code.wp _ _ _ _ ((w4.alloc (.cells #[.int .i64 0, .int .i64 0, .int .i64 0, .int .i64 0, .int .i64 0, .int .i64 0, .int .i64 0, .int .i64 0, .int .i64 0, .int .i64 0, .bool false, .int .i64 0, .int .i64 0, .int .i64 0, .int .i64 0, .int .i64 0, .int .i64 0, .int .i64 0, .int .i64 0, .int .i64 0, .string ⟨#[]⟩, .int .i64 0, .int .i64 0, .int .i64 0, .int .i64 0, .slice none 0 0, .slice none 0 0, .int .i64 0] 40)).setCells w4.heap.size 0 es)
              generalize (w4.alloc (.cells #[.int .i64 0, .int .i64 0, .int .i64 0, .int .i64 0, .int .i64 0, .int .i64 0, .int .i64 0, .int .i64 0, .int .i64 0, .int .i64 0, .bool false, .int .i64 0, .int .i64 0, .int .i64 0, .int .i64 0, .int .i64 0, .int .i64 0, .int .i64 0, .int .i64 0, .int .i64 0, .string ⟨#[]⟩, .int .i64 0, .int .i64 0, .int .i64 0, .int .i64 0, .slice none 0 0, .slice none 0 0, .int .i64 0] 40)).setCells w4.heap.size 0 es = W4 at *
              have hY := hYn
              clear hYn HT
              obtain ⟨y, hLL⟩ : ∃ q, q = w4.heap.size := ⟨_, rfl⟩
              rw [← hLL] at hY ⊢
              have HEy := Lib.hid hLL
              clear hLL
              have c1 := HC1.out _ hM
              have hyq : y ≠ q := by rw [HEy.out]; omega
              have hyqv : some y ≠ qv.ownBlock := fun e => by
                have := hqvs _ e.symm
                rw [HEy.out] at this
                omega
              go_wp2_with fail
              refine (qtake_any (by exact hQ) hb hB hLn (by omega) (by omega) hwn HT.out).mono ?_
              rintro en w5 ⟨u2, qv5, rfl, hF2, hQ5, hk5, hr5⟩
              obtain ⟨fs, rfl, hfl, hfone, hF2⟩ := At.parts hF2 hG.ok.op.1
              have hNx := nstay hN hQ hk5
              have hFx := From.nkept hF hk5 hqs hqvs
              have hYx := blk_nkept hY hk5 hyq hyqv
              have hbx := hk5.below hb hqw hqr
              have hqrx : ∀ j, qv5.ownBlock = some j → w.heap.size ≤ j := fun j hj => by
                rcases hr5 j hj with h1 | h1
                · exact hqr j h1
                · have := hb.size; omega
              clear hN hQ hM hb hF hY hk5 hr5 hqr hmq c1
              have hN := hNx
              have hQ := hQ5
              have hb := hbx
              have hF := hFx
              have hY := hYx
              clear hNx hQ5 hbx hFx hYx
              have hX := BlkAt.new w5 40 [.int .i64 0, .int .i64 0, .int .i64 0, .int .i64 0, .int .i64 0, .int .i64 0, .int .i64 0, .int .i64 0, .int .i64 0, .int .i64 0, .bool false, .int .i64 0, .int .i64 0, .int .i64 0, .int .i64 0, .int .i64 0, .int .i64 0, .int .i64 0, .int .i64 0, .int .i64 0, .string ⟨#[]⟩, .int .i64 0, .int .i64 0, .int .i64 0, .int .i64 0, .slice none 0 0, .slice none 0 0, .int .i64 0]
              have HL1 := Lib.hid (show fs.length = ([.int .i64 0, .int .i64 0, .int .i64 0, .int .i64 0, .int .i64 0, .int .i64 0, .int .i64 0, .int .i64 0, .int .i64 0, .int .i64 0, .bool false, .int .i64 0, .int .i64 0, .int .i64 0, .int .i64 0, .int .i64 0, .int .i64 0, .int .i64 0, .int .i64 0, .int .i64 0, .string ⟨#[]⟩, .int .i64 0, .int .i64 0, .int .i64 0, .int .i64 0, .slice none 0 0, .slice none 0 0, .int .i64 0] : List Value).length by rw [hfl]; rfl)
              have b4 := (Below.refl w5.heap.size w5).alloc (Nat.le_refl _) (.cells #[.int .i64 0, .int .i64 0, .int .i64 0, .int .i64 0, .int .i64 0, .int .i64 0, .int .i64 0, .int .i64 0, .int .i64 0, .int .i64 0, .bool false, .int .i64 0, .int .i64 0, .int .i64 0, .int .i64 0, .int .i64 0, .int .i64 0, .int .i64 0, .int .i64 0, .int .i64 0, .string ⟨#[]⟩, .int .i64 0, .int .i64 0, .int .i64 0, .int .i64 0, .slice none 0 0, .slice none 0 0, .int .i64 0] 40)
              have G4 := grown_setCells w5.heap.size fs 0 (w5.alloc (.cells #[.int .i64 0, .int .i64 0, .int .i64 0, .int .i64 0, .int .i64 0, .int .i64 0, .int .i64 0, .int .i64 0, .int .i64 0, .int .i64 0, .bool false, .int .i64 0, .int .i64 0, .int .i64 0, .int .i64 0, .int .i64 0, .int .i64 0, .int .i64 0, .int .i64 0, .int .i64 0, .string ⟨#[]⟩, .int .i64 0, .int .i64 0, .int .i64 0, .int .i64 0, .slice none 0 0, .slice none 0 0, .int .i64 0] 40))
              have b5 := b4.grown G4 b4.size (by intro j hj; cases hj; exact Nat.le_refl _)
              have hZn := hX.stored (vs := fs) HL1.out
              have HT := Lib.hid (blk_there2 hX HL1.out)
              have hNn := hN.below b5
              clear hN
              have hN := hNn
              clear hNn
              have hQn := hQ.below b5
              clear hQ
              have hQ := hQn
              clear hQn
              have hFn := hF.below b5
              clear hF
              have hF := hFn
              clear hFn
              have hYn := hY.below b5
              clear hY
              have hY := hYn
              clear hYn
              have hF2n := hF2.below b5
              clear hF2
              have hF2 := hF2n
              clear hF2n
              have hbn := below_step hb b5
              clear hb
              have hb := hbn
              clear hbn
              clear hX b4 G4 b5 HL1
              go_upto_region 18 with (first | (refine wpList_store_mid rfl 40 (.tmp 9) (.tmp 69) rfl w5.heap.size 0 fs.toArray rfl rfl (by exact HT.out) (by rw [List.size_toArray, hfl]; exact msg_info) hfone ?_; rw [List.toList_toArray]))
              change Code.wp _ _ _ _ ((w5.alloc (.cells #[.int .i64 0, .int .i64 0, .int .i64 0, .int .i64 0, .int .i64 0, .int .i64 0, .int .i64 0, .int .i64 0, .int .i64 0, .int .i64 0, .bool false, .int .i64 0, .int .i64 0, .int .i64 0, .int .i64 0, .int .i64 0, .int .i64 0, .int .i64 0, .int .i64 0, .int .i64 0, .string ⟨#[]⟩, .int .i64 0, .int .i64 0, .int .i64 0, .int .i64 0, .slice none 0 0, .slice none 0 0, .int .i64 0] 40)).setCells w5.heap.size 0 fs)
              generalize (w5.alloc (.cells #[.int .i64 0, .int .i64 0, .int .i64 0, .int .i64 0, .int .i64 0, .int .i64 0, .int .i64 0, .int .i64 0, .int .i64 0, .int .i64 0, .bool false, .int .i64 0, .int .i64 0, .int .i64 0, .int .i64 0, .int .i64 0, .int .i64 0, .int .i64 0, .int .i64 0, .int .i64 0, .string ⟨#[]⟩, .int .i64 0, .int .i64 0, .int .i64 0, .int .i64 0, .slice none 0 0, .slice none 0 0, .int .i64 0] 40)).setCells w5.heap.size 0 fs = W5 at *
              have hZ := hZn
              clear hZn HT
              obtain ⟨z, hLL⟩ : ∃ q, q = w5.heap.size := ⟨_, rfl⟩
              rw [← hLL] at hZ ⊢
              have HEz := Lib.hid hLL
              clear hLL
              go_wp2_with (first | (refine wpList_load_mid rfl 40 (.tmp 7) rfl y 0 rfl es _ hY.range Tryz.underlying40 rfl (by rw [hel]; exact msg_info) ?_; simp only [Act.put, List.setIfInBounds_toArray, List.set_cons_zero, List.set_cons_succ]) | (refine wpList_load_mid rfl 40 (.tmp 9) rfl z 0 rfl fs _ hZ.range Tryz.underlying40 rfl (by rw [hfl]; exact msg_info) ?_; simp only [Act.put, List.setIfInBounds_toArray, List.set_cons_zero, List.set_cons_succ]))
              refine (qwsame_any (by exact hF.at) (by exact hF2) hG.ok.op.1 hG.ok.op.1).mono ?_
              rintro en w6 ⟨rfl, b6⟩
              rw [decide_eq_true (rfl : T = T)]
              have hNq := hN.below b6
              clear hN
              have hN := hNq
              clear hNq
              have hQq := hQ.below b6
              clear hQ
              have hQ := hQq
              clear hQq
              have hbq := below_step hb b6
              clear hb
              have hb := hbq
              clear hbq b6
              clear hF hF2 hY hZ hvx hqrx
              generalize takeN_ Ls nn = L4 at *
              go_wp2_with fail
              refine (ncounts_any (by exact hN)).mono ?_
              rintro en w7 ⟨rfl, nn7, hw7⟩
              have HN := Lib.hid (show NetAt Bn w7 b v4 L4 sN (tN + 1) by rw [hw7]; exact hN.drewN nn7)
              have HQ := Lib.hid (show QNetAt B w w7 q qv5 L4 sN (tN + 1) by rw [hw7]; exact hQ.below (below_drewN (Below.refl _ _) nn7))
              have HB := Lib.hid (show Below w.heap.size w w7 by rw [hw7]; exact below_drewN hb nn7)
              clear hN hQ hb hw7
              obtain ⟨QA, Qcap, hqf⟩ := HQ.out.form
              have q0 := HQ.out.cell0
              have q1 := HQ.out.cell1
              have q2 := HQ.out.cell2
              rw [hqf] at q0
              have HQF := Lib.hid hqf
              clear hqf
              go_wp2_with fail
              go_quiet (first | (go_at_call 15; exact quiet_left (nlen_any (HN.out.drewN _))))
              go_wp2_with fail
              go_roundw
              case rel => exact ⟨k + 1, b, v4, qv5, L4, sN, (tN + 1), Bn, by omega, by omega, by omega, by omega, rfl, by go_num, hBn, HN.out.drewN _, HQ.out.below (below_drewN (Below.refl _ _) _), below_drewN HB.out _⟩
              case measure => simp [intOf]; omega
          · have b2 : (kd == 2) = false := by simpa using k2
            by_cases k3 : kd = 3
            · have b3 : (kd == 3) = true := by simpa using k3
              clear k1 k2 k3
              by_cases hLn : Ls = []
              · subst hLn
                go_upto_region 21 with (fail)
                clear c0
                have bd : Below W1.heap.size W1 W1.drew := below_drewN (Below.refl _ _) 1
                have c1d : W1.drew.cell? ⟨m, 1, none⟩ = some (.int .i64 nn) := c1
                have hNq := hN.below bd
                clear hN
                have hN := hNq
                clear hNq
                have hQq := hQ.below bd
                clear hQ
                have hQ := hQq
                clear hQq
                have hMq := hM.below bd
                clear hM
                have hM := hMq
                clear hMq
                have hbq := below_step hb bd
                clear hb
                have hb := hbq
                clear hbq bd
                go_region_held3 (fun w' => w'.cell? ⟨m, 1, none⟩ = some (.int .i64 nn)) (exact c1d)
                  (first
                  | (go_at_call 18; refine (ndouble_none (by exact hN) nn).mono ?_; rintro en wz ⟨rfl, rfl⟩)
                  | (go_at_call 22; refine (qdouble_none (by exact hQ) nn).mono ?_; rintro en wz ⟨rfl, rfl⟩))
                clear hM hmv hmq hv hqr c1 c1d
                go_wp2_with fail
                refine (ncounts_any (by exact hN)).mono ?_
                rintro en w7 ⟨rfl, nn7, hw7⟩
                have HN := Lib.hid (show NetAt Bn w7 b v [] sN tN by rw [hw7]; exact hN.drewN nn7)
                have HQ := Lib.hid (show QNetAt B w w7 q qv [] sN tN by rw [hw7]; exact hQ.below (below_drewN (Below.refl _ _) nn7))
                have HB := Lib.hid (show Below w.heap.size w w7 by rw [hw7]; exact below_drewN hb nn7)
                clear hN hQ hb hw7
                obtain ⟨QA, Qcap, hqf⟩ := HQ.out.form
                have q0 := HQ.out.cell0
                have q1 := HQ.out.cell1
                have q2 := HQ.out.cell2
                rw [hqf] at q0
                have HQF := Lib.hid hqf
                clear hqf
                go_wp2_with fail
                go_quiet (first | (go_at_call 15; exact quiet_left (nlen_any (HN.out.drewN _))))
                go_wp2_with fail
                go_roundw
                case rel => exact ⟨k + 1, b, v, qv, [], sN, tN, Bn, by omega, by simp, by omega, by omega, rfl, by go_num, hBn, HN.out.drewN _, HQ.out.below (below_drewN (Below.refl _ _) _), below_drewN HB.out _⟩
                case measure => simp [intOf]; omega
              · obtain ⟨L4, x4, hx4⟩ : ∃ L4 x4, dblN Ls nn = (L4, x4) := ⟨_, _, rfl⟩
                have hgr := dblN_grow hx4
                have HX := Lib.hid hx4
                have HLB : Hid (Ls.length ≤ 10000) := Lib.hid (by omega)
                have HLB6 : Hid (Ls.length ≤ 1000000) := Lib.hid (by omega)
                clear hx4
                go_upto_region 21 with (fail)
                clear c0
                have bd : Below W1.heap.size W1 W1.drew := below_drewN (Below.refl _ _) 1
                have hNq := hN.below bd
                clear hN
                have hN := hNq
                clear hNq
                have hQq := hQ.below bd
                clear hQ
                have hQ := hQq
                clear hQq
                have hMq := hM.below bd
                clear hM
                have hM := hMq
                clear hMq
                have hbq := below_step hb bd
                clear hb
                have hb := hbq
                clear hbq bd
                refine wp_region_noPanic ?_
                refine wp_region_held_drew (S := (fun w' => BlkAt w' m 42 ds)) (by kernel_rfl) (by exact hM) (fun hHeld => ?_)
                refine wpAnyH_take (i := 0) (oi := ?oq_2_0) (v := ?va_2_0) ?op_2_0 (by kernel_rfl) (by kernel_rfl) (by kernel_rfl) (fun _ _ _ h => h) ?yi_2_0 hHeld ?re_2_0
                case op_2_0 => (simp only [List.getElem?_toArray, List.getElem?_cons_zero]; rfl)
                case yi_2_0 =>
                  refine Or.inl ⟨by rfl, ?_⟩
                  intro w hSw
                  try dsimp only at hSw
                  go_simp
                  all_goals with_reducible rfl
                try simp only [Act.put, List.setIfInBounds_toArray, List.set_cons_zero, List.set_cons_succ]
                refine wpAnyH_take (i := 1) (oi := ?oq_2_1) (v := ?va_2_1) ?op_2_1 (by kernel_rfl) (by kernel_rfl) (by kernel_rfl) (fun _ _ _ h => h) ?yi_2_1 hHeld ?re_2_1
                case op_2_1 => (simp only [List.getElem?_toArray, List.getElem?_cons_succ, List.getElem?_cons_zero]; rfl)
                case yi_2_1 =>
                  refine Or.inl ⟨by rfl, ?_⟩
                  intro w hSw
                  try dsimp only at hSw
                  go_simp
                  all_goals with_reducible rfl
                try simp only [Act.put, List.setIfInBounds_toArray, List.set_cons_zero, List.set_cons_succ]
                refine wpAnyH_take (i := 2) (oi := ?oq_2_2) (v := ?va_2_2) ?op_2_2 (by kernel_rfl) (by kernel_rfl) (by kernel_rfl) (fun _ _ _ h => h) ?yi_2_2 hHeld ?re_2_2
                case op_2_2 => (simp only [List.getElem?_toArray, List.getElem?_cons_succ, List.getElem?_cons_zero]; rfl)
                case yi_2_2 => exact (by
                  refine Or.inl ⟨by rfl, ?_⟩
                  intro w hSw
                  have hSc := HC1.out w hSw
                  clear hSw
                  go_simp
                  all_goals with_reducible rfl)
                try simp only [Act.put, List.setIfInBounds_toArray, List.set_cons_zero, List.set_cons_succ]
                refine wpAnyH_take (i := 4) (oi := ?oq_2_4) (v := ?va_2_4) ?op_2_4 (by kernel_rfl) (by kernel_rfl) (by kernel_rfl) (fun _ _ _ h => h) ?yi_2_4 hHeld ?re_2_4
                case op_2_4 => (simp only [List.getElem?_toArray, List.getElem?_cons_succ, List.getElem?_cons_zero]; rfl)
                case yi_2_4 =>
                  refine Or.inl ⟨by rfl, ?_⟩
                  intro w hSw
                  try dsimp only at hSw
                  go_simp
                  all_goals with_reducible rfl
                try simp only [Act.put, List.setIfInBounds_toArray, List.set_cons_zero, List.set_cons_succ]
                refine wpAnyH_take (i := 5) (oi := ?oq_2_5) (v := ?va_2_5) ?op_2_5 (by kernel_rfl) (by kernel_rfl) (by kernel_rfl) (fun _ _ _ h => h) ?yi_2_5 hHeld ?re_2_5
                case op_2_5 => (simp only [List.getElem?_toArray, List.getElem?_cons_succ, List.getElem?_cons_zero]; rfl)
                case yi_2_5 =>
                  refine Or.inl ⟨by rfl, ?_⟩
                  intro w hSw
                  try dsimp only at hSw
                  go_simp
                  all_goals with_reducible rfl
                try simp only [Act.put, List.setIfInBounds_toArray, List.set_cons_zero, List.set_cons_succ]
                refine wpAnyH_take (i := 6) (oi := ?oq_2_6) (v := ?va_2_6) ?op_2_6 (by kernel_rfl) (by kernel_rfl) (by kernel_rfl) (fun _ _ _ h => h) ?yi_2_6 hHeld ?re_2_6
                case op_2_6 => (simp only [List.getElem?_toArray, List.getElem?_cons_succ, List.getElem?_cons_zero]; rfl)
                case yi_2_6 => exact (by
                  refine Or.inl ⟨by rfl, ?_⟩
                  intro w hSw
                  have hSc := HC1.out w hSw
                  clear hSw
                  go_simp
                  all_goals with_reducible rfl)
                try simp only [Act.put, List.setIfInBounds_toArray, List.set_cons_zero, List.set_cons_succ]
                refine wpAnyH_ready (rs := [3]) (by kernel_rfl) (by simp) (AllReadyH.cons (o := ?oq_2_3) ?op_2_3 (fun K hK => ?re_2_3) AllReadyH.nil)
                case op_2_3 => (simp only [List.getElem?_toArray, List.getElem?_cons_succ, List.getElem?_cons_zero]; rfl)
                go_simp
                go_at_call 18
                refine (ndouble_any (by exact hN) hLn HLB6.out hwn HX.out).mono ?_
                rintro en z1 ⟨rfl, v4, hN4, hk4, hr4⟩
                have hQx := qstay hN hQ hk4
                have hMx := nop_stay hM hk4 hN.2.1 (by decide) hmv
                have hbx := hk4.below hb hbw hv
                have hvx : ∀ j, v4.ownBlock = some j → w.heap.size ≤ j := fun j hj => by
                  rcases hr4 j hj with h1 | h1
                  · exact hv j h1
                  · have := hb.size; omega
                have hmvx : some m ≠ v4.ownBlock := own_apartN (b := m) (T := 42) (cs := ds.toArray) (fr := (0, 0)) (by exact hMx) hN4.2.2.1 (by decide)
                clear hN hQ hM hb hv hmv hk4 hr4
                have hN := hN4
                have hQ := hQx
                have hM := hMx
                have hb := hbx
                have hv := hvx
                have hmv := hmvx
                clear hN4 hQx hMx hbx hvx hmvx
                refine hK.out _ _ (by exact hM) (fun hHeld => ?_)
                clear hK K
                try simp only [Act.put, List.setIfInBounds_toArray, List.set_cons_zero, List.set_cons_succ]
                refine wpAnyH_ready (rs := [7]) (by kernel_rfl) (by simp) (AllReadyH.cons (o := ?oq_2_7) ?op_2_7 (fun K hK => ?re_2_7) AllReadyH.nil)
                case op_2_7 => (simp only [List.getElem?_toArray, List.getElem?_cons_succ, List.getElem?_cons_zero]; rfl)
                go_simp
                go_at_call 22
                refine (qdouble_any (by exact hQ) hLn HLB.out hwn HX.out).mono ?_
                rintro en z2 ⟨rfl, qv4, hQ4, hk4, hr4⟩
                have hNx := nstay hN hQ hk4
                have hMx := nop_stay hM hk4 hQ.2.1 (by decide) hmq
                have hbx := hk4.below hb hqw hqr
                have hqrx : ∀ j, qv4.ownBlock = some j → w.heap.size ≤ j := fun j hj => by
                  rcases hr4 j hj with h1 | h1
                  · exact hqr j h1
                  · have := hb.size; omega
                clear hN hQ hM hb hqr hmq hk4 hr4
                have hN := hNx
                have hQ := hQ4
                have hM := hMx
                have hb := hbx
                have hqr := hqrx
                clear hNx hQ4 hMx hbx hqrx
                refine hK.out _ _ (by exact hM) (fun hHeld => ?_)
                clear hK K
                try simp only [Act.put, List.setIfInBounds_toArray, List.set_cons_zero, List.set_cons_succ]
                refine wpAnyH_take (i := 8) (oi := ?oq_2_8) (v := ?va_2_8) ?op_2_8 (by kernel_rfl) (by kernel_rfl) (by kernel_rfl) (fun _ _ _ h => h) ?yi_2_8 hHeld ?re_2_8
                case op_2_8 => (simp only [List.getElem?_toArray, List.getElem?_cons_succ, List.getElem?_cons_zero]; rfl)
                case yi_2_8 =>
                  refine Or.inl ⟨by rfl, ?_⟩
                  intro w hSw
                  try dsimp only at hSw
                  go_simp
                  all_goals with_reducible rfl
                try simp only [Act.put, List.setIfInBounds_toArray, List.set_cons_zero, List.set_cons_succ]
                refine wpAnyH_done (by kernel_rfl) ?_ _
                refine NoPanic.normal ?_
                clear hM hmv hv hqr c1
                go_wp2_with fail
                refine (ncounts_any (by exact hN)).mono ?_
                rintro en w7 ⟨rfl, nn7, hw7⟩
                have HN := Lib.hid (show NetAt Bn w7 b v4 L4 sN tN by rw [hw7]; exact hN.drewN nn7)
                have HQ := Lib.hid (show QNetAt B w w7 q qv4 L4 sN tN by rw [hw7]; exact hQ.below (below_drewN (Below.refl _ _) nn7))
                have HB := Lib.hid (show Below w.heap.size w w7 by rw [hw7]; exact below_drewN hb nn7)
                clear hN hQ hb hw7
                obtain ⟨QA, Qcap, hqf⟩ := HQ.out.form
                have q0 := HQ.out.cell0
                have q1 := HQ.out.cell1
                have q2 := HQ.out.cell2
                rw [hqf] at q0
                have HQF := Lib.hid hqf
                clear hqf
                go_wp2_with fail
                go_quiet (first | (go_at_call 15; exact quiet_left (nlen_any (HN.out.drewN _))))
                go_wp2_with fail
                go_roundw
                case rel => exact ⟨k + 1, b, v4, qv4, L4, sN, tN, Bn, by omega, by omega, by omega, by omega, rfl, by go_num, hBn, HN.out.drewN _, HQ.out.below (below_drewN (Below.refl _ _) _), below_drewN HB.out _⟩
                case measure => simp [intOf]; omega
            · have b3 : (kd == 3) = false := by simpa using k3
              by_cases k4 : kd = 4
              · have b4 : (kd == 4) = true := by simpa using k4
                clear k1 k2 k3 k4
                by_cases hLn : Ls = []
                · subst hLn
                  go_wp2_with fail
                  refine (npeek_none (by exact hN) nn).mono ?_
                  rintro en w4 ⟨u, rfl, hF, b4⟩
                  obtain ⟨es, rfl, hel, heone, hF⟩ := From.parts hF rfl
                  have hNq := hN.below b4
                  clear hN
                  have hN := hNq
                  clear hNq
                  have hQq := hQ.below b4
                  clear hQ
                  have hQ := hQq
                  clear hQq
                  have hMq := hM.below b4
                  clear hM
                  have hM := hMq
                  clear hMq
                  have hbq := below_step hb b4
                  clear hb
                  have hb := hbq
                  clear hbq b4
                  have hX := BlkAt.new w4 40 [.int .i64 0, .int .i64 0, .int .i64 0, .int .i64 0, .int .i64 0, .int .i64 0, .int .i64 0, .int .i64 0, .int .i64 0, .int .i64 0, .bool false, .int .i64 0, .int .i64 0, .int .i64 0, .int .i64 0, .int .i64 0, .int .i64 0, .int .i64 0, .int .i64 0, .int .i64 0, .string ⟨#[]⟩, .int .i64 0, .int .i64 0, .int .i64 0, .int .i64 0, .slice none 0 0, .slice none 0 0, .int .i64 0]
                  have HL1 := Lib.hid (show es.length = ([.int .i64 0, .int .i64 0, .int .i64 0, .int .i64 0, .int .i64 0, .int .i64 0, .int .i64 0, .int .i64 0, .int .i64 0, .int .i64 0, .bool false, .int .i64 0, .int .i64 0, .int .i64 0, .int .i64 0, .int .i64 0, .int .i64 0, .int .i64 0, .int .i64 0, .int .i64 0, .string ⟨#[]⟩, .int .i64 0, .int .i64 0, .int .i64 0, .int .i64 0, .slice none 0 0, .slice none 0 0, .int .i64 0] : List Value).length by rw [hel]; rfl)
                  have b4 := (Below.refl w4.heap.size w4).alloc (Nat.le_refl _) (.cells #[.int .i64 0, .int .i64 0, .int .i64 0, .int .i64 0, .int .i64 0, .int .i64 0, .int .i64 0, .int .i64 0, .int .i64 0, .int .i64 0, .bool false, .int .i64 0, .int .i64 0, .int .i64 0, .int .i64 0, .int .i64 0, .int .i64 0, .int .i64 0, .int .i64 0, .int .i64 0, .string ⟨#[]⟩, .int .i64 0, .int .i64 0, .int .i64 0, .int .i64 0, .slice none 0 0, .slice none 0 0, .int .i64 0] 40)
                  have G4 := grown_setCells w4.heap.size es 0 (w4.alloc (.cells #[.int .i64 0, .int .i64 0, .int .i64 0, .int .i64 0, .int .i64 0, .int .i64 0, .int .i64 0, .int .i64 0, .int .i64 0, .int .i64 0, .bool false, .int .i64 0, .int .i64 0, .int .i64 0, .int .i64 0, .int .i64 0, .int .i64 0, .int .i64 0, .int .i64 0, .int .i64 0, .string ⟨#[]⟩, .int .i64 0, .int .i64 0, .int .i64 0, .int .i64 0, .slice none 0 0, .slice none 0 0, .int .i64 0] 40))
                  have b5 := b4.grown G4 b4.size (by intro j hj; cases hj; exact Nat.le_refl _)
                  have hYn := hX.stored (vs := es) HL1.out
                  have HT := Lib.hid (blk_there2 hX HL1.out)
                  have hNn := hN.below b5
                  clear hN
                  have hN := hNn
                  clear hNn
                  have hQn := hQ.below b5
                  clear hQ
                  have hQ := hQn
                  clear hQn
                  have hMn := hM.below b5
                  clear hM
                  have hM := hMn
                  clear hMn
                  have hFn := hF.below b5
                  clear hF
                  have hF := hFn
                  clear hFn
                  have hbn := below_step hb b5
                  clear hb
                  have hb := hbn
                  clear hbn
                  clear hX b4 G4 b5 HL1
                  go_upto_region 25 with (first | (refine wpList_store_mid rfl 40 (.tmp 11) (.tmp 98) rfl w4.heap.size 0 es.toArray rfl rfl (by exact HT.out) (by rw [List.size_toArray, hel]; exact msg_info) heone ?_; rw [List.toList_toArray]))
                  change Code.wp _ _ _ _ ((w4.alloc (.cells #[.int .i64 0, .int .i64 0, .int .i64 0, .int .i64 0, .int .i64 0, .int .i64 0, .int .i64 0, .int .i64 0, .int .i64 0, .int .i64 0, .bool false, .int .i64 0, .int .i64 0, .int .i64 0, .int .i64 0, .int .i64 0, .int .i64 0, .int .i64 0, .int .i64 0, .int .i64 0, .string ⟨#[]⟩, .int .i64 0, .int .i64 0, .int .i64 0, .int .i64 0, .slice none 0 0, .slice none 0 0, .int .i64 0] 40)).setCells w4.heap.size 0 es)
                  generalize (w4.alloc (.cells #[.int .i64 0, .int .i64 0, .int .i64 0, .int .i64 0, .int .i64 0, .int .i64 0, .int .i64 0, .int .i64 0, .int .i64 0, .int .i64 0, .bool false, .int .i64 0, .int .i64 0, .int .i64 0, .int .i64 0, .int .i64 0, .int .i64 0, .int .i64 0, .int .i64 0, .int .i64 0, .string ⟨#[]⟩, .int .i64 0, .int .i64 0, .int .i64 0, .int .i64 0, .slice none 0 0, .slice none 0 0, .int .i64 0] 40)).setCells w4.heap.size 0 es = W4 at *
                  have hY := hYn
                  clear hYn HT
                  obtain ⟨y, hLL⟩ : ∃ q, q = w4.heap.size := ⟨_, rfl⟩
                  rw [← hLL] at hY ⊢
                  have HEy := Lib.hid hLL
                  clear hLL
                  have c1 := HC1.out _ hM
                  go_wp2_with fail
                  refine (qpeek_none (by exact hQ) nn).mono ?_
                  rintro en w5 ⟨u2, rfl, hF2, b5⟩
                  obtain ⟨fs, rfl, hfl, hfone, hF2⟩ := At.parts hF2 rfl
                  have hNq := hN.below b5
                  clear hN
                  have hN := hNq
                  clear hNq
                  have hQq := hQ.below b5
                  clear hQ
                  have hQ := hQq
                  clear hQq
                  have hFq := hF.below b5
                  clear hF
                  have hF := hFq
                  clear hFq
                  have hYq := hY.below b5
                  clear hY
                  have hY := hYq
                  clear hYq
                  have hbq := below_step hb b5
                  clear hb
                  have hb := hbq
                  clear hbq b5
                  have hX := BlkAt.new w5 40 [.int .i64 0, .int .i64 0, .int .i64 0, .int .i64 0, .int .i64 0, .int .i64 0, .int .i64 0, .int .i64 0, .int .i64 0, .int .i64 0, .bool false, .int .i64 0, .int .i64 0, .int .i64 0, .int .i64 0, .int .i64 0, .int .i64 0, .int .i64 0, .int .i64 0, .int .i64 0, .string ⟨#[]⟩, .int .i64 0, .int .i64 0, .int .i64 0, .int .i64 0, .slice none 0 0, .slice none 0 0, .int .i64 0]
                  have HL1 := Lib.hid (show fs.length = ([.int .i64 0, .int .i64 0, .int .i64 0, .int .i64 0, .int .i64 0, .int .i64 0, .int .i64 0, .int .i64 0, .int .i64 0, .int .i64 0, .bool false, .int .i64 0, .int .i64 0, .int .i64 0, .int .i64 0, .int .i64 0, .int .i64 0, .int .i64 0, .int .i64 0, .int .i64 0, .string ⟨#[]⟩, .int .i64 0, .int .i64 0, .int .i64 0, .int .i64 0, .slice none 0 0, .slice none 0 0, .int .i64 0] : List Value).length by rw [hfl]; rfl)
                  have b4 := (Below.refl w5.heap.size w5).alloc (Nat.le_refl _) (.cells #[.int .i64 0, .int .i64 0, .int .i64 0, .int .i64 0, .int .i64 0, .int .i64 0, .int .i64 0, .int .i64 0, .int .i64 0, .int .i64 0, .bool false, .int .i64 0, .int .i64 0, .int .i64 0, .int .i64 0, .int .i64 0, .int .i64 0, .int .i64 0, .int .i64 0, .int .i64 0, .string ⟨#[]⟩, .int .i64 0, .int .i64 0, .int .i64 0, .int .i64 0, .slice none 0 0, .slice none 0 0, .int .i64 0] 40)
                  have G4 := grown_setCells w5.heap.size fs 0 (w5.alloc (.cells #[.int .i64 0, .int .i64 0, .int .i64 0, .int .i64 0, .int .i64 0, .int .i64 0, .int .i64 0, .int .i64 0, .int .i64 0, .int .i64 0, .bool false, .int .i64 0, .int .i64 0, .int .i64 0, .int .i64 0, .int .i64 0, .int .i64 0, .int .i64 0, .int .i64 0, .int .i64 0, .string ⟨#[]⟩, .int .i64 0, .int .i64 0, .int .i64 0, .int .i64 0, .slice none 0 0, .slice none 0 0, .int .i64 0] 40))
                  have b5 := b4.grown G4 b4.size (by intro j hj; cases hj; exact Nat.le_refl _)
                  have hZn := hX.stored (vs := fs) HL1.out
                  have HT := Lib.hid (blk_there2 hX HL1.out)
                  have hNn := hN.below b5
                  clear hN
                  have hN := hNn
                  clear hNn
                  have hQn := hQ.below b5
                  clear hQ
                  have hQ := hQn
                  clear hQn
                  have hFn := hF.below b5
                  clear hF
                  have hF := hFn
                  clear hFn
                  have hYn := hY.below b5
                  clear hY
                  have hY := hYn
                  clear hYn
                  have hF2n := hF2.below b5
                  clear hF2
                  have hF2 := hF2n
                  clear hF2n
                  have hbn := below_step hb b5
                  clear hb
                  have hb := hbn
                  clear hbn
                  clear hX b4 G4 b5 HL1
                  go_upto_region 26 with (first | (refine wpList_store_mid rfl 40 (.tmp 13) (.tmp 105) rfl w5.heap.size 0 fs.toArray rfl rfl (by exact HT.out) (by rw [List.size_toArray, hfl]; exact msg_info) hfone ?_; rw [List.toList_toArray]))
                  change Code.wp _ _ _ _ ((w5.alloc (.cells #[.int .i64 0, .int .i64 0, .int .i64 0, .int .i64 0, .int .i64 0, .int .i64 0, .int .i64 0, .int .i64 0, .int .i64 0, .int .i64 0, .bool false, .int .i64 0, .int .i64 0, .int .i64 0, .int .i64 0, .int .i64 0, .int .i64 0, .int .i64 0, .int .i64 0, .int .i64 0, .string ⟨#[]⟩, .int .i64 0, .int .i64 0, .int .i64 0, .int .i64 0, .slice none 0 0, .slice none 0 0, .int .i64 0] 40)).setCells w5.heap.size 0 fs)
                  generalize (w5.alloc (.cells #[.int .i64 0, .int .i64 0, .int .i64 0, .int .i64 0, .int .i64 0, .int .i64 0, .int .i64 0, .int .i64 0, .int .i64 0, .int .i64 0, .bool false, .int .i64 0, .int .i64 0, .int .i64 0, .int .i64 0, .int .i64 0, .int .i64 0, .int .i64 0, .int .i64 0, .int .i64 0, .string ⟨#[]⟩, .int .i64 0, .int .i64 0, .int .i64 0, .int .i64 0, .slice none 0 0, .slice none 0 0, .int .i64 0] 40)).setCells w5.heap.size 0 fs = W5 at *
                  have hZ := hZn
                  clear hZn HT
                  obtain ⟨z, hLL⟩ : ∃ q, q = w5.heap.size := ⟨_, rfl⟩
                  rw [← hLL] at hZ ⊢
                  have HEz := Lib.hid hLL
                  clear hLL
                  clear hM hmv hmq hv hqr c0 c1
                  go_wp2_with (first | (refine wpList_load_mid rfl 40 (.tmp 11) rfl y 0 rfl es _ hY.range Tryz.underlying40 rfl (by rw [hel]; exact msg_info) ?_; simp only [Act.put, List.setIfInBounds_toArray, List.set_cons_zero, List.set_cons_succ]) | (refine wpList_load_mid rfl 40 (.tmp 13) rfl z 0 rfl fs _ hZ.range Tryz.underlying40 rfl (by rw [hfl]; exact msg_info) ?_; simp only [Act.put, List.setIfInBounds_toArray, List.set_cons_zero, List.set_cons_succ]))
                  refine (qwsame_any (by exact hF.at) (by exact hF2) rfl rfl).mono ?_
                  rintro en w6 ⟨rfl, b6⟩
                  rw [decide_eq_true (rfl : msgZero = msgZero)]
                  have hNq := hN.below b6
                  clear hN
                  have hN := hNq
                  clear hNq
                  have hQq := hQ.below b6
                  clear hQ
                  have hQ := hQq
                  clear hQq
                  have hbq := below_step hb b6
                  clear hb
                  have hb := hbq
                  clear hbq b6
                  clear hF hF2 hY hZ
                  go_wp2_with fail
                  refine (ncounts_any (by exact hN)).mono ?_
                  rintro en w7 ⟨rfl, nn7, hw7⟩
                  have HN := Lib.hid (show NetAt Bn w7 b v [] sN tN by rw [hw7]; exact hN.drewN nn7)
                  have HQ := Lib.hid (show QNetAt B w w7 q qv [] sN tN by rw [hw7]; exact hQ.below (below_drewN (Below.refl _ _) nn7))
                  have HB := Lib.hid (show Below w.heap.size w w7 by rw [hw7]; exact below_drewN hb nn7)
                  clear hN hQ hb hw7
                  obtain ⟨QA, Qcap, hqf⟩ := HQ.out.form
                  have q0 := HQ.out.cell0
                  have q1 := HQ.out.cell1
                  have q2 := HQ.out.cell2
                  rw [hqf] at q0
                  have HQF := Lib.hid hqf
                  clear hqf
                  go_wp2_with fail
                  go_quiet (first | (go_at_call 15; exact quiet_left (nlen_any (HN.out.drewN _))))
                  go_wp2_with fail
                  go_roundw
                  case rel => exact ⟨k + 1, b, v, qv, [], sN, tN, Bn, by omega, by simp, by omega, by omega, rfl, by go_num, hBn, HN.out.drewN _, HQ.out.below (below_drewN (Below.refl _ _) _), below_drewN HB.out _⟩
                  case measure => simp [intOf]; omega
                · obtain ⟨T, hT⟩ := place_some hLn nn
                  have hG := hN.goes hT
                  go_wp2_with fail
                  refine (npeek_any (by exact hN) hLn (by omega) hwn hT).mono ?_
                  rintro en w4 ⟨u, rfl, hF, b4'⟩
                  obtain ⟨es, rfl, hel, heone, hF⟩ := From.parts hF hG.ok.op.1
                  have hNq := hN.below b4'
                  clear hN
                  have hN := hNq
                  clear hNq
                  have hQq := hQ.below b4'
                  clear hQ
                  have hQ := hQq
                  clear hQq
                  have hMq := hM.below b4'
                  clear hM
                  have hM := hMq
                  clear hMq
                  have hbq := below_step hb b4'
                  clear hb
                  have hb := hbq
                  clear hbq b4'
                  have hX := BlkAt.new w4 40 [.int .i64 0, .int .i64 0, .int .i64 0, .int .i64 0, .int .i64 0, .int .i64 0, .int .i64 0, .int .i64 0, .int .i64 0, .int .i64 0, .bool false, .int .i64 0, .int .i64 0, .int .i64 0, .int .i64 0, .int .i64 0, .int .i64 0, .int .i64 0, .int .i64 0, .int .i64 0, .string ⟨#[]⟩, .int .i64 0, .int .i64 0, .int .i64 0, .int .i64 0, .slice none 0 0, .slice none 0 0, .int .i64 0]
                  have HL1 := Lib.hid (show es.length = ([.int .i64 0, .int .i64 0, .int .i64 0, .int .i64 0, .int .i64 0, .int .i64 0, .int .i64 0, .int .i64 0, .int .i64 0, .int .i64 0, .bool false, .int .i64 0, .int .i64 0, .int .i64 0, .int .i64 0, .int .i64 0, .int .i64 0, .int .i64 0, .int .i64 0, .int .i64 0, .string ⟨#[]⟩, .int .i64 0, .int .i64 0, .int .i64 0, .int .i64 0, .slice none 0 0, .slice none 0 0, .int .i64 0] : List Value).length by rw [hel]; rfl)
                  have b4 := (Below.refl w4.heap.size w4).alloc (Nat.le_refl _) (.cells #[.int .i64 0, .int .i64 0, .int .i64 0, .int .i64 0, .int .i64 0, .int .i64 0, .int .i64 0, .int .i64 0, .int .i64 0, .int .i64 0, .bool false, .int .i64 0, .int .i64 0, .int .i64 0, .int .i64 0, .int .i64 0, .int .i64 0, .int .i64 0, .int .i64 0, .int .i64 0, .string ⟨#[]⟩, .int .i64 0, .int .i64 0, .int .i64 0, .int .i64 0, .slice none 0 0, .slice none 0 0, .int .i64 0] 40)
                  have G4 := grown_setCells w4.heap.size es 0 (w4.alloc (.cells #[.int .i64 0, .int .i64 0, .int .i64 0, .int .i64 0, .int .i64 0, .int .i64 0, .int .i64 0, .int .i64 0, .int .i64 0, .int .i64 0, .bool false, .int .i64 0, .int .i64 0, .int .i64 0, .int .i64 0, .int .i64 0, .int .i64 0, .int .i64 0, .int .i64 0, .int .i64 0, .string ⟨#[]⟩, .int .i64 0, .int .i64 0, .int .i64 0, .int .i64 0, .slice none 0 0, .slice none 0 0, .int .i64 0] 40))
                  have b5 := b4.grown G4 b4.size (by intro j hj; cases hj; exact Nat.le_refl _)
                  have hYn := hX.stored (vs := es) HL1.out
                  have HT := Lib.hid (blk_there2 hX HL1.out)
                  have hNn := hN.below b5
                  clear hN
                  have hN := hNn
                  clear hNn
                  have hQn := hQ.below b5
                  clear hQ
                  have hQ := hQn
                  clear hQn
                  have hMn := hM.below b5
                  clear hM
                  have hM := hMn
                  clear hMn
                  have hFn := hF.below b5
                  clear hF
                  have hF := hFn
                  clear hFn
                  have hbn := below_step hb b5
                  clear hb
                  have hb := hbn
                  clear hbn
                  clear hX b4 G4 b5 HL1
                  go_upto_region 25 with (first | (refine wpList_store_mid rfl 40 (.tmp 11) (.tmp 98) rfl w4.heap.size 0 es.toArray rfl rfl (by exact HT.out) (by rw [List.size_toArray, hel]; exact msg_info) heone ?_; rw [List.toList_toArray]))
                  change Code.wp _ _ _ _ ((w4.alloc (.cells #[.int .i64 0, .int .i64 0, .int .i64 0, .int .i64 0, .int .i64 0, .int .i64 0, .int .i64 0, .int .i64 0, .int .i64 0, .int .i64 0, .bool false, .int .i64 0, .int .i64 0, .int .i64 0, .int .i64 0, .int .i64 0, .int .i64 0, .int .i64 0, .int .i64 0, .int .i64 0, .string ⟨#[]⟩, .int .i64 0, .int .i64 0, .int .i64 0, .int .i64 0, .slice none 0 0, .slice none 0 0, .int .i64 0] 40)).setCells w4.heap.size 0 es)
                  generalize (w4.alloc (.cells #[.int .i64 0, .int .i64 0, .int .i64 0, .int .i64 0, .int .i64 0, .int .i64 0, .int .i64 0, .int .i64 0, .int .i64 0, .int .i64 0, .bool false, .int .i64 0, .int .i64 0, .int .i64 0, .int .i64 0, .int .i64 0, .int .i64 0, .int .i64 0, .int .i64 0, .int .i64 0, .string ⟨#[]⟩, .int .i64 0, .int .i64 0, .int .i64 0, .int .i64 0, .slice none 0 0, .slice none 0 0, .int .i64 0] 40)).setCells w4.heap.size 0 es = W4 at *
                  have hY := hYn
                  clear hYn HT
                  obtain ⟨y, hLL⟩ : ∃ q, q = w4.heap.size := ⟨_, rfl⟩
                  rw [← hLL] at hY ⊢
                  have HEy := Lib.hid hLL
                  clear hLL
                  have c1 := HC1.out _ hM
                  go_wp2_with fail
                  refine (qpeek_any (by exact hQ) hb hLn (by omega) hwn hT).mono ?_
                  rintro en w5 ⟨u2, rfl, hF2, b5⟩
                  obtain ⟨fs, rfl, hfl, hfone, hF2⟩ := At.parts hF2 hG.ok.op.1
                  have hNq := hN.below b5
                  clear hN
                  have hN := hNq
                  clear hNq
                  have hQq := hQ.below b5
                  clear hQ
                  have hQ := hQq
                  clear hQq
                  have hFq := hF.below b5
                  clear hF
                  have hF := hFq
                  clear hFq
                  have hYq := hY.below b5
                  clear hY
                  have hY := hYq
                  clear hYq
                  have hbq := below_step hb b5
                  clear hb
                  have hb := hbq
                  clear hbq b5
                  have hX := BlkAt.new w5 40 [.int .i64 0, .int .i64 0, .int .i64 0, .int .i64 0, .int .i64 0, .int .i64 0, .int .i64 0, .int .i64 0, .int .i64 0, .int .i64 0, .bool false, .int .i64 0, .int .i64 0, .int .i64 0, .int .i64 0, .int .i64 0, .int .i64 0, .int .i64 0, .int .i64 0, .int .i64 0, .string ⟨#[]⟩, .int .i64 0, .int .i64 0, .int .i64 0, .int .i64 0, .slice none 0 0, .slice none 0 0, .int .i64 0]
                  have HL1 := Lib.hid (show fs.length = ([.int .i64 0, .int .i64 0, .int .i64 0, .int .i64 0, .int .i64 0, .int .i64 0, .int .i64 0, .int .i64 0, .int .i64 0, .int .i64 0, .bool false, .int .i64 0, .int .i64 0, .int .i64 0, .int .i64 0, .int .i64 0, .int .i64 0, .int .i64 0, .int .i64 0, .int .i64 0, .string ⟨#[]⟩, .int .i64 0, .int .i64 0, .int .i64 0, .int .i64 0, .slice none 0 0, .slice none 0 0, .int .i64 0] : List Value).length by rw [hfl]; rfl)
                  have b4 := (Below.refl w5.heap.size w5).alloc (Nat.le_refl _) (.cells #[.int .i64 0, .int .i64 0, .int .i64 0, .int .i64 0, .int .i64 0, .int .i64 0, .int .i64 0, .int .i64 0, .int .i64 0, .int .i64 0, .bool false, .int .i64 0, .int .i64 0, .int .i64 0, .int .i64 0, .int .i64 0, .int .i64 0, .int .i64 0, .int .i64 0, .int .i64 0, .string ⟨#[]⟩, .int .i64 0, .int .i64 0, .int .i64 0, .int .i64 0, .slice none 0 0, .slice none 0 0, .int .i64 0] 40)
                  have G4 := grown_setCells w5.heap.size fs 0 (w5.alloc (.cells #[.int .i64 0, .int .i64 0, .int .i64 0, .int .i64 0, .int .i64 0, .int .i64 0, .int .i64 0, .int .i64 0, .int .i64 0, .int .i64 0, .bool false, .int .i64 0, .int .i64 0, .int .i64 0, .int .i64 0, .int .i64 0, .int .i64 0, .int .i64 0, .int .i64 0, .int .i64 0, .string ⟨#[]⟩, .int .i64 0, .int .i64 0, .int .i64 0, .int .i64 0, .slice none 0 0, .slice none 0 0, .int .i64 0] 40))
                  have b5 := b4.grown G4 b4.size (by intro j hj; cases hj; exact Nat.le_refl _)
                  have hZn := hX.stored (vs := fs) HL1.out
                  have HT := Lib.hid (blk_there2 hX HL1.out)
                  have hNn := hN.below b5
                  clear hN
                  have hN := hNn
                  clear hNn
                  have hQn := hQ.below b5
                  clear hQ
                  have hQ := hQn
                  clear hQn
                  have hFn := hF.below b5
                  clear hF
                  have hF := hFn
                  clear hFn
                  have hYn := hY.below b5
                  clear hY
                  have hY := hYn
                  clear hYn
                  have hF2n := hF2.below b5
                  clear hF2
                  have hF2 := hF2n
                  clear hF2n
                  have hbn := below_step hb b5
                  clear hb
                  have hb := hbn
                  clear hbn
                  clear hX b4 G4 b5 HL1
                  go_upto_region 26 with (first | (refine wpList_store_mid rfl 40 (.tmp 13) (.tmp 105) rfl w5.heap.size 0 fs.toArray rfl rfl (by exact HT.out) (by rw [List.size_toArray, hfl]; exact msg_info) hfone ?_; rw [List.toList_toArray]))
                  change Code.wp _ _ _ _ ((w5.alloc (.cells #[.int .i64 0, .int .i64 0, .int .i64 0, .int .i64 0, .int .i64 0, .int .i64 0, .int .i64 0, .int .i64 0, .int .i64 0, .int .i64 0, .bool false, .int .i64 0, .int .i64 0, .int .i64 0, .int .i64 0, .int .i64 0, .int .i64 0, .int .i64 0, .int .i64 0, .int .i64 0, .string ⟨#[]⟩, .int .i64 0, .int .i64 0, .int .i64 0, .int .i64 0, .slice none 0 0, .slice none 0 0, .int .i64 0] 40)).setCells w5.heap.size 0 fs)
                  generalize (w5.alloc (.cells #[.int .i64 0, .int .i64 0, .int .i64 0, .int .i64 0, .int .i64 0, .int .i64 0, .int .i64 0, .int .i64 0, .int .i64 0, .int .i64 0, .bool false, .int .i64 0, .int .i64 0, .int .i64 0, .int .i64 0, .int .i64 0, .int .i64 0, .int .i64 0, .int .i64 0, .int .i64 0, .string ⟨#[]⟩, .int .i64 0, .int .i64 0, .int .i64 0, .int .i64 0, .slice none 0 0, .slice none 0 0, .int .i64 0] 40)).setCells w5.heap.size 0 fs = W5 at *
                  have hZ := hZn
                  clear hZn HT
                  obtain ⟨z, hLL⟩ : ∃ q, q = w5.heap.size := ⟨_, rfl⟩
                  rw [← hLL] at hZ ⊢
                  have HEz := Lib.hid hLL
                  clear hLL
                  clear hM hmv hmq hv hqr c0 c1 hT
                  go_wp2_with (first | (refine wpList_load_mid rfl 40 (.tmp 11) rfl y 0 rfl es _ hY.range Tryz.underlying40 rfl (by rw [hel]; exact msg_info) ?_; simp only [Act.put, List.setIfInBounds_toArray, List.set_cons_zero, List.set_cons_succ]) | (refine wpList_load_mid rfl 40 (.tmp 13) rfl z 0 rfl fs _ hZ.range Tryz.underlying40 rfl (by rw [hfl]; exact msg_info) ?_; simp only [Act.put, List.setIfInBounds_toArray, List.set_cons_zero, List.set_cons_succ]))
                  refine (qwsame_any (by exact hF.at) (by exact hF2) hG.ok.op.1 hG.ok.op.1).mono ?_
                  rintro en w6 ⟨rfl, b6⟩
                  rw [decide_eq_true (rfl : T = T)]
                  have hNq := hN.below b6
                  clear hN
                  have hN := hNq
                  clear hNq
                  have hQq := hQ.below b6
                  clear hQ
                  have hQ := hQq
                  clear hQq
                  have hbq := below_step hb b6
                  clear hb
                  have hb := hbq
                  clear hbq b6
                  clear hF hF2 hY hZ
                  go_wp2_with fail
                  refine (ncounts_any (by exact hN)).mono ?_
                  rintro en w7 ⟨rfl, nn7, hw7⟩
                  have HN := Lib.hid (show NetAt Bn w7 b v Ls sN tN by rw [hw7]; exact hN.drewN nn7)
                  have HQ := Lib.hid (show QNetAt B w w7 q qv Ls sN tN by rw [hw7]; exact hQ.below (below_drewN (Below.refl _ _) nn7))
                  have HB := Lib.hid (show Below w.heap.size w w7 by rw [hw7]; exact below_drewN hb nn7)
                  clear hN hQ hb hw7
                  obtain ⟨QA, Qcap, hqf⟩ := HQ.out.form
                  have q0 := HQ.out.cell0
                  have q1 := HQ.out.cell1
                  have q2 := HQ.out.cell2
                  rw [hqf] at q0
                  have HQF := Lib.hid hqf
                  clear hqf
                  go_wp2_with fail
                  go_quiet (first | (go_at_call 15; exact quiet_left (nlen_any (HN.out.drewN _))))
                  go_wp2_with fail
                  go_roundw
                  case rel => exact ⟨k + 1, b, v, qv, Ls, sN, tN, Bn, by omega, by omega, by omega, by omega, rfl, by go_num, hBn, HN.out.drewN _, HQ.out.below (below_drewN (Below.refl _ _) _), below_drewN HB.out _⟩
                  case measure => simp [intOf]; omega
              · have b4 : (kd == 4) = false := by simpa using k4
                obtain ⟨L7, x7, hx7⟩ : ∃ L7 x7, sendN Ls (whereM 7) = (L7, x7) := ⟨_, _, rfl⟩
                have g7 := whereM_goes (n := 7) (by decide)
                have hL7 : L7 ≠ [] := by
                  have := where_some Ls
                  rw [hx7] at this
                  exact this
                have hg7 := sendN_grow hx7
                have HX := Lib.hid hx7
                clear k1 k2 k3 k4 hx7 c1
                go_wp2_with fail
                refine (ncopy_any (by exact hN) (by omega)).mono ?_
                rintro en w4 ⟨c, vc, rfl, hC4, b4'⟩
                have hbs := hN.lt
                have hvs : ∀ j, v.ownBlock = some j → j < W1.heap.size := fun j hj => (hN.row j hj).2
                have hW1s := hb.size
                clear hM c0 hmq hmv
                have hNq := hN.below b4'
                clear hN
                have hN := hNq
                clear hNq
                have hQq := hQ.below b4'
                clear hQ
                have hQ := hQq
                clear hQq
                have hbq := below_step hb b4'
                clear hb
                have hb := hbq
                clear hbq b4'
                generalize W1.heap.size = H1 at hC4 hbs hvs hW1s
                go_wp2_with fail
                refine (where_any 7 _).mono ?_
                rintro en w5 ⟨u, rfl, hA, b5⟩
                have hC := hC4
                clear hC4
                have hNq := hN.below b5
                clear hN
                have hN := hNq
                clear hNq
                have hQq := hQ.below b5
                clear hQ
                have hQ := hQq
                clear hQq
                have hCq := hC.below b5
                clear hC
                have hC := hCq
                clear hCq
                have hbq := below_step hb b5
                clear hb
                have hb := hbq
                clear hbq b5
                have hcb : c ≠ b := by have := hC.1; omega
                have hcv : some c ≠ v.ownBlock := fun e => by have := hvs _ e.symm; have := hC.1; omega
                have hbc : some b ≠ vc.ownBlock := fun e => by have := (hC.row _ e.symm).1; omega
                have hvv : vc.ownBlock = none ∨ vc.ownBlock ≠ v.ownBlock := by
                  rcases ho : vc.ownBlock with _ | o
                  · exact .inl rfl
                  · exact .inr (fun e => by have := (hC.row o ho).1; have := hvs o e.symm; omega)
                go_wp2_with fail
                refine (nsend_any (by exact hN) (by omega) (by exact hA) g7.ok (by decide) (by decide) HX.out).mono ?_
                rintro en w6 ⟨rfl, v6, hN6, hk6, hr6⟩
                have hQx := qstay hN hQ hk6
                have hCx := hC.nkept hk6 hcb hcv hbc hvv
                have hbx := hk6.below hb hbw hv
                have hv6 : ∀ j, v6.ownBlock = some j → w.heap.size ≤ j := fun j hj => by
                  rcases hr6 j hj with h1 | h1
                  · exact hv j h1
                  · have := hb.size; omega
                have hcv6 : some c ≠ v6.ownBlock := fun e => by
                  rcases hr6 c e.symm with h1 | h1
                  · exact hcv h1.symm
                  · have := hC.lt; omega
                have hvv6 : vc.ownBlock = none ∨ vc.ownBlock ≠ v6.ownBlock := by
                  rcases ho : vc.ownBlock with _ | o
                  · exact .inl rfl
                  · refine .inr (fun e => ?_)
                    rcases hr6 o e.symm with h1 | h1
                    · rcases hvv with h2 | h2
                      · rw [ho] at h2; cases h2
                      · exact h2 (by rw [ho, h1])
                    · have := (hC.row o ho).2; omega
                clear hN hQ hC hb hk6 hr6 hA hv hvv hcv hvs
                have hN := hN6
                have hQ := hQx
                have hC := hCx
                have hb := hbx
                clear hN6 hQx hCx hbx
                obtain ⟨T, hT⟩ := place_some hL7 0
                have hst := sentTo_le sN x7
                have hbw' := hN.1
                go_wp2_with fail
                refine (ntake_any (by exact hN) hL7 (by omega) (by omega) (W64.mk (by decide) (by decide)) hT).mono ?_
                rintro en w7 ⟨u7, v7, rfl, hF7, hN7, hk7, hq7⟩
                have hQx := qstay hN hQ hk7
                have hCx := hC.nkept hk7 hcb hcv6 hbc hvv6
                have hbx := hk7.below hb hbw hv6
                clear hN hQ hC hb hk7 hF7 hN7 hq7 hT hv6
                have hN := hCx
                have hQ := hQx
                have hb := hbx
                clear hCx hQx hbx hBn
                have hBn : w.heap.size ≤ H1 := by omega
                go_wp2_with fail
                refine (ncounts_any (by exact hN)).mono ?_
                rintro en w7 ⟨rfl, nn7, hw7⟩
                have HN := Lib.hid (show NetAt H1 w7 c vc Ls sN tN by rw [hw7]; exact hN.drewN nn7)
                have HQ := Lib.hid (show QNetAt B w w7 q qv Ls sN tN by rw [hw7]; exact hQ.below (below_drewN (Below.refl _ _) nn7))
                have HB := Lib.hid (show Below w.heap.size w w7 by rw [hw7]; exact below_drewN hb nn7)
                clear hN hQ hb hw7
                obtain ⟨QA, Qcap, hqf⟩ := HQ.out.form
                have q0 := HQ.out.cell0
                have q1 := HQ.out.cell1
                have q2 := HQ.out.cell2
                rw [hqf] at q0
                have HQF := Lib.hid hqf
                clear hqf
                go_wp2_with fail
                go_quiet (first | (go_at_call 15; exact quiet_left (nlen_any (HN.out.drewN _))))
                go_wp2_with fail
                go_roundw
                case rel => exact ⟨k + 1, c, vc, qv, Ls, sN, tN, H1, by omega, by omega, by omega, by omega, rfl, by go_num, hBn, HN.out.drewN _, HQ.out.below (below_drewN (Below.refl _ _) _), below_drewN HB.out _⟩
                case measure => simp [intOf]; omega
      · have hlt' : ¬ (k : Int) < (S.length : Int) := by omega
        go_wp2_with fail
        go_ret
        exact ⟨rfl, hb⟩
set_option maxRecDepth 100000 in
theorem NetPlays_walk {H : Type} {enc : TypeId × Value → H} {base : Nat} {d : DataW H} {p : List MemPlace} (v : Value) (w : World) (hv : Value.okWide Tryz.prog w .any base 22 v) (ht : DataW.Trod enc Tryz.prog w 0 (fun _ => true) true 22 v d p) :
    Calls Tryz.prog 7 #[v] w fun e w' => e = .returned (.bool true) ∧ Below w.heap.size w w' := by
  obtain ⟨a, S, cap, rfl, hS⟩ := open_nops hv ht
  exact NetPlays_go hS


set_option maxRecDepth 100000 in
theorem NetPlays_calls (H : Type) (enc : TypeId × Value → H) (W : World) (base : Nat) (args : Array Value) (ds gs : List (DataW H)) (before : List MemPlace)
    (hval : ∀ (j : Nat) t v, Tryz.f7.params[j]? = some t → args[j]? = some v → Value.okWide Tryz.prog W .any base t v)
    (hW : DataW.Whole enc Tryz.prog Tryz.f7.params.toList Rows.netPlaysSpec.vars false W args.toList ds gs before) :
    Calls Tryz.prog 7 args W fun e W' => e = .returned (.bool true) ∧ Below W.heap.size W W' := by
  obtain ⟨p, q, hA, hV, rfl, hfz, hnd⟩ := hW
  rw [Tryz.params7] at hA hval
  obtain ⟨v0, vs0, d0, ds0, p0, q0, hargs, rfl, rfl, h0, r0⟩ := trodAll_cons hA
  obtain ⟨rfl, rfl, rfl⟩ := trodAll_nil r0
  obtain rfl : args = #[v0] := Array.toList_inj.1 hargs

  exact NetPlays_walk v0 W (hval 0 22 v0 rfl rfl) h0

set_option maxRecDepth 100000 in
theorem NetPlays_lifted (os : Os) (started : os.Started) (H : Type) (enc : TypeId × Value → H) :
    ReturnsInHanded {} Tryz.checked os 7 .any (Rows.netPlaysSpec.pre6 enc Tryz.prog Tryz.f7 Rows.netPlaysRow.domain false) (Rows.netPlaysSpec.post enc Tryz.prog Tryz.f7 false true false false) := by
  refine returnsInHanded_of_change (C := Tryz.checked) own started (by kernel_rfl) Tryz.func7
    (ChangeSpec.witness6 (enc := enc) (C := Tryz.checked) false ⟨#[], #[.slice none 0 0], []⟩ 8 (by kernel_rfl) (by kernel_rfl) (by kernel_rfl) (by kernel_rfl)) ?_
  intro W base args ds gs before hval0 hW hcnd _
  have hval : ∀ (j : Nat) t v, Tryz.f7.params[j]? = some t → args[j]? = some v → Value.okWide Tryz.prog W .any base t v := hval0
  refine (NetPlays_calls H enc W base args ds gs before hval hW).mono fun e W' ⟨he, bel⟩ => ?_
  exact ⟨_, he, law_post (ts := [22]) (by rw [Tryz.params7]) (by intro t ht; simp only [List.mem_cons, List.not_mem_nil, or_false] at ht; subst ht <;> exact ⟨by kernel_rfl, of_decide_eq_true (by kernel_rfl)⟩) hW rfl
    (fun ds h => by match ds, h with | [_], _ => rfl) (by kernel_rfl) bel⟩

theorem NetPlays_over : Rows.netPlaysRow.holds Tryz.pinned (OpenSpec.ofChange Rows.netPlaysSpec) :=
  OpenClaim.holds_of_wide 7 Tryz.f7 rfl rfl rfl rfl rfl rfl rfl ⟨rfl, rfl, rfl, rfl, rfl⟩ rfl rfl rfl rfl rfl (by kernel_rfl) Tryz.func7 (by kernel_rfl)
    (of_decide_eq_true (by kernel_rfl)) (by unfold Func.isWrapper; first | (rw [if_pos (by decide +kernel)]; kernel_rfl) | (rw [if_neg (by decide +kernel)]; exact ⟨rfl, rfl⟩))
    (fun os started H enc _ => NetPlays_lifted os started H enc)

/-- The statement. -/
theorem NetPlays_proved : Rows.NetPlaysSaid := NetPlays_over

end Go.Proofs.YtnaabaahfjklhaaGreat
