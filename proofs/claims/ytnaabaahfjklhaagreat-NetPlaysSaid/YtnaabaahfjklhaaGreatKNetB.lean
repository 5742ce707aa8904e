/- The network's calls: Send, Peek, Take, Double, Counts, Copy. The network's calls: Peek, Take, Counts, Copy. The law's first line: answers that the document fixes. -/
import Derived.Test.YtnaabaahfjklhaaGreatKNetA
import Derived.Test.YtnaabaahfjklhaaGreatWireAwake
import Derived.Deep.DeepCutAuto
import Derived.Test.YtnaabaahfjklhaaGreatWireRefSame
import Derived.Test.YtnaabaahfjklhaaGreatWireOk
namespace Go.Proofs.YtnaabaahfjklhaaGreat
open Go.RowKit Go.ChangeShapes Go.WideShapes Go.Joins Go.Deep
set_option linter.unusedVariables false

/-- How many went. -/
def sentTo (s x : Int) : Int := if x = 0 then s + 1 else s
theorem sent_yes (s : Int) : sentTo s 0 = s + 1 := if_pos rfl
theorem sent_not {x : Int} (h : x ≠ 0) (s : Int) : sentTo s x = s := if_neg h
set_option maxRecDepth 100000 in
set_option maxHeartbeats 2000000 in

theorem nsend_any {B b : Nat} {w : World} {v : Value} {L : List MsgV} {s t : Int} (h : NetAt B w b v L s t) (hs : 0 ≤ s ∧ s ≤ 1000000000) {M : MsgV} {u : Value} (hu : M.At w u) (hok : MOk M) (hc1 : M.cf.chain.length ≤ 1000) (hc2 : M.op.cron.length ≤ 10000)
    {L' : List MsgV} {x : Int} (hx : sendN L M = (L', x)) :
    Calls Tryz.prog 12 #[.pointer (some ⟨b, 0, none⟩), u] w fun e w' => e = .returned (.int .i64 x) ∧ ∃ v', NetAt B w' b v' L' (sentTo s x) t ∧ NKept w w' b v.ownBlock ∧ RNew w v v' := by
  have HS := Lib.hid hs
  have HX := Lib.hid hx
  clear hs hx
  obtain ⟨cs, rfl, hlen, hone, hA⟩ := At.parts hu hok.op.1
  clear hu hone
  have hM := BlkAt.new w 40 cs
  have hb := (Below.refl w.heap.size w).alloc (Nat.le_refl _) (.cells cs.toArray 40)
  have hN := h.below hb
  have hA1 := hA.below hb
  have hkp : NKept w (w.alloc (.cells cs.toArray 40)) b v.ownBlock := NKept.of_below hb
  have hsz : w.heap.size ≤ (w.alloc (.cells cs.toArray 40)).heap.size := hb.size
  clear h hA hb
  go_enter Tryz.func12, Tryz.ntmps12
  go_upto_region 1 with (fail)
  change Code.wp _ _ _ _ (w.alloc (.cells cs.toArray 40))
  change BlkAt (w.alloc (.cells cs.toArray 40)) _ _ _ at hM
  generalize w.alloc (.cells cs.toArray 40) = W at *
  obtain ⟨m, hm⟩ : ∃ m, m = w.heap.size := ⟨_, rfl⟩
  rw [← hm] at hM ⊢
  clear hm
  obtain ⟨p, y, hp⟩ : ∃ p y, printM M = (p, y) := ⟨_, _, rfl⟩
  have HP := Lib.hid hp
  clear hp
  go_wp2_with (refine wpList_load_mid rfl 40 (.tmp 3) rfl m 0 rfl cs _ hM.range Tryz.underlying40 rfl (by rw [hlen]; exact msg_info) ?_; simp only [Act.put, List.setIfInBounds_toArray, List.set_cons_zero, List.set_cons_succ])
  refine (wprint_any (by exact hA1) hok hc1 hc2 HP.out).mono ?_
  rintro en w2 ⟨rfl, b2⟩
  have hN2 := hN.below b2
  have hk2 := hkp.trans (NKept.of_below b2)
  have hsz2 := Nat.le_trans hsz b2.size
  clear hM hA1 hN hkp hsz b2
  rcases goes_of hok HP.out with ⟨rfl, hG, rfl⟩ | hy
  · by_cases hl : 2000 ≤ L.length
    · have HE : Hid (L' = L ∧ x = 5) := Lib.hid (by
        have := HX.out
        rw [sendN, HP.out, if_pos rfl, if_pos hl] at this
        obtain ⟨h1, h2⟩ := Prod.mk.inj this
        exact ⟨h1.symm, h2.symm⟩)
      go_wp2_with fail
      refine (nput_full (by exact hN2) hl _).mono ?_
      rintro en w3 ⟨rfl, rfl⟩
      have HN := Lib.hid hN2
      have HK := Lib.hid hk2
      clear hN2 hk2
      go_wp2_with fail
      go_ret
      exact ⟨by (rw [HE.out.2]; try rfl), v, by rw [HE.out.1, HE.out.2, sent_not (by decide)]; exact HN.out, HK.out, RNew.refl _ _⟩
    · have HE : Hid (L' = L ++ [M] ∧ x = 0) := Lib.hid (by
        have := HX.out
        rw [sendN_some hG (by omega)] at this
        obtain ⟨h1, h2⟩ := Prod.mk.inj this
        exact ⟨h1.symm, h2.symm⟩)
      go_wp2_with fail
      refine (nput_room (by exact hN2) (by omega) hG).mono ?_
      rintro en w3 ⟨rfl, v', hN3, hk3, hr3⟩
      have hk := NKept.trans hk2 hk3
      have hr : RNew w v v' := fun j hj => by
        rcases hr3 j hj with h1 | h1
        · exact .inl h1
        · exact .inr (by omega)
      have HN := Lib.hid (hN3.set1 (s + 1))
      have HK := Lib.hid (hk.trans (NKept.of_grownB (grown_setCell w3 b 1 (.int .i64 (s + 1)))))
      have HR := Lib.hid hr
      have c1 := hN3.cell1
      have hf := hN3.free 1
      clear hN2 hk2 hN3 hk3 hr3 hk hr
      go_wp2_with fail
      refine (aadd_any (by exact c1) (by exact hf) HS.out).mono ?_
      rintro en w4 ⟨rfl, rfl⟩
      clear c1 hf
      go_wp2_with fail
      go_ret
      exact ⟨by (rw [HE.out.2]; try rfl), v', by rw [HE.out.1, HE.out.2, sent_yes]; exact HN.out, HK.out, HR.out⟩
  · have hyb : (y == 0) = false := by simpa using hy
    have HE : Hid (L' = L ∧ x = y) := Lib.hid (by
      have := HX.out
      rw [sendN, HP.out, if_neg hy] at this
      obtain ⟨h1, h2⟩ := Prod.mk.inj this
      exact ⟨h1.symm, h2.symm⟩)
    have HY := Lib.hid hy
    have HN := Lib.hid hN2
    have HK := Lib.hid hk2
    clear hy hN2 hk2
    go_wp2_with fail
    go_ret
    exact ⟨by (rw [HE.out.2]; try rfl), v, by rw [HE.out.1, HE.out.2, sent_not HY.out]; exact HN.out, HK.out, RNew.refl _ _⟩
set_option maxRecDepth 100000 in
set_option maxHeartbeats 2000000 in

theorem nsend_nil {w : World} {M : MsgV} {u : Value} (hu : M.At w u) (hop : M.op.v.length = 8) :
    Calls Tryz.prog 12 #[.pointer none, u] w fun e w' => e = .returned (.int .i64 12) ∧ Below w.heap.size w w' := by
  obtain ⟨cs, rfl, hlen, hone, hA⟩ := At.parts hu hop
  have hb := (Below.refl w.heap.size w).alloc (Nat.le_refl _) (.cells cs.toArray 40)
  go_enter Tryz.func12, Tryz.ntmps12
  go_wp2_with fail
  go_ret
  exact ⟨rfl, hb⟩
set_option maxRecDepth 100000 in
theorem ncounts_nil (w : World) : Calls Tryz.prog 25 #[.pointer none] w fun e w' => e = .returned (.tuple #[.int .i64 0, .int .i64 0]) ∧ w = w' := by
  go_enter Tryz.func25, Tryz.ntmps25
  go_wp2_with fail
  go_ret2
  exact ⟨rfl, rfl⟩
set_option maxRecDepth 100000 in
theorem ncopy_nil (w : World) : Calls Tryz.prog 24 #[.pointer none] w fun e w' => e = .returned (.pointer none) ∧ w = w' := by
  go_enter Tryz.func24, Tryz.ntmps24
  go_wp2_with fail
  go_ret
  exact ⟨rfl, rfl⟩
set_option maxRecDepth 100000 in
set_option maxHeartbeats 1000000 in
theorem ndouble_nil (w : World) (i : Int) : Calls Tryz.prog 18 #[.pointer none, .int .i64 i] w fun e w' => e = .returned (.int .i64 12) ∧ Below w.heap.size w w' := by
  go_enter Tryz.func18, Tryz.ntmps18
  go_wp2_with fail
  refine (nplace_nil _ i).mono ?_
  rintro en w2 ⟨rfl, rfl⟩
  go_wp2_with fail
  go_ret
  exact ⟨rfl, Below.refl _ _⟩
set_option maxRecDepth 100000 in
set_option maxHeartbeats 1000000 in
theorem ndouble_none {B b : Nat} {w : World} {v : Value} {s t : Int} (h : NetAt B w b v [] s t) (i : Int) :
    Calls Tryz.prog 18 #[.pointer (some ⟨b, 0, none⟩), .int .i64 i] w fun e w' => e = .returned (.int .i64 10) ∧ w = w' := by
  go_enter Tryz.func18, Tryz.ntmps18
  go_wp2_with fail
  refine (nplace_none (by exact h) i).mono ?_
  rintro en w2 ⟨rfl, rfl⟩
  go_wp2_with fail
  go_ret
  exact ⟨rfl, rfl⟩
/-- A text under way. -/
theorem NetAt.text {B b : Nat} {w : World} {A : Option Addr} {cap : Nat} {L : List MsgV} {s t : Int} (h : NetAt B w b (.slice A L.length cap) L s t) {k : Nat} {M : MsgV} (hk : L[k]? = some M) :
    ∃ g, A = some ⟨g, 0, none⟩ ∧ w.cell? ⟨g, k, none⟩ = some (.string ⟨(ptext M).toArray⟩) := by
  have hkl := (List.getElem?_eq_some_iff.1 hk).1
  have ho := h.2.2.1
  rcases ho.2 with ⟨hv, h0⟩ | ⟨g, cap', cur, hv, hg, hr, hn, hc, hs, ht⟩
  · omega
  · simp only [Value.slice.injEq] at hv
    obtain ⟨rfl, _, rfl⟩ := hv
    refine ⟨g, rfl, ?_⟩
    rw [World.ownsRow.cellAt ho k (by omega), strsCells_at (l := ptext M) (by rw [List.getElem?_map, hk]; rfl)]
set_option maxRecDepth 100000 in
set_option maxHeartbeats 1000000 in

theorem ndouble_any {B b : Nat} {w : World} {v : Value} {L : List MsgV} {s t : Int} (h : NetAt B w b v L s t) (hL : L ≠ []) (hl : L.length ≤ 1000000) {i : Int} (hi : W64 i) {L' : List MsgV} {x : Int} (hx : dblN L i = (L', x)) :
    Calls Tryz.prog 18 #[.pointer (some ⟨b, 0, none⟩), .int .i64 i] w fun e w' => e = .returned (.int .i64 x) ∧ ∃ v', NetAt B w' b v' L' s t ∧ NKept w w' b v.ownBlock ∧ RNew w v v' := by
  obtain ⟨M, hM⟩ := place_some hL i
  have hG := h.goes hM
  rw [dblN_some hM] at hx
  have HX := Lib.hid hx
  obtain ⟨A, cap, rfl⟩ := h.form
  obtain ⟨g, rfl, hc⟩ := h.text hM
  have c0 := h.cell0
  have hlt : placeN i L.length < L.length := placeN_lt i (List.length_pos_iff.2 hL)
  have hlt' : ((placeN i L.length : Nat) : Int) < (L.length : Int) := by omega
  clear hx hM
  go_enter Tryz.func18, Tryz.ntmps18
  go_wp2_with fail
  refine (nplace_any (by exact h) hL hl hi).mono ?_
  rintro en w2 ⟨rfl, rfl⟩
  generalize placeN i L.length = k at *
  by_cases hf : 2000 ≤ L.length
  · have HE : Hid (L' = L ∧ x = 5) := Lib.hid (by
      have := HX.out
      rw [if_pos hf] at this
      obtain ⟨h1, h2⟩ := Prod.mk.inj this
      exact ⟨h1.symm, h2.symm⟩)
    go_wp2_with fail
    refine (nput_full (by exact h) hf _).mono ?_
    rintro en w3 ⟨rfl, rfl⟩
    have HN := Lib.hid h
    clear h c0 hc
    go_wp2_with fail
    go_ret
    exact ⟨by (rw [HE.out.2]; try rfl), _, by rw [HE.out.1]; exact HN.out, NKept.refl _ _ _, RNew.refl _ _⟩
  · have HE : Hid (L' = L ++ [M] ∧ x = 0) := Lib.hid (by
      have := HX.out
      rw [if_neg hf] at this
      obtain ⟨h1, h2⟩ := Prod.mk.inj this
      exact ⟨h1.symm, h2.symm⟩)
    go_wp2_with fail
    refine (nput_room (by exact h) (by omega) hG).mono ?_
    rintro en w3 ⟨rfl, v', hN3, hk3, hr3⟩
    have HN := Lib.hid hN3
    have HK := Lib.hid hk3
    have HR := Lib.hid hr3
    clear h c0 hc hN3 hk3 hr3
    go_wp2_with fail
    go_ret
    exact ⟨by (rw [HE.out.2]; try rfl), v', by rw [HE.out.1]; exact HN.out, HK.out, HR.out⟩
end Go.Proofs.YtnaabaahfjklhaaGreat
namespace Go.Proofs.YtnaabaahfjklhaaGreat
open Go.RowKit Go.ChangeShapes Go.WideShapes Go.Joins Go.Deep
set_option linter.unusedVariables false

set_option maxRecDepth 100000 in
set_option maxHeartbeats 2000000 in

theorem npeek_none {B b : Nat} {w : World} {v : Value} {s t : Int} (h : NetAt B w b v [] s t) (i : Int) :
    Calls Tryz.prog 19 #[.pointer (some ⟨b, 0, none⟩), .int .i64 i] w fun en w' => ∃ u, en = .returned (.tuple #[u, .int .i64 10]) ∧ msgZero.From w.heap.size w' u ∧ Below w.heap.size w w' := by
  obtain ⟨zs, hzs⟩ : ∃ zs : List Value, zs = [.int .i64 0, .int .i64 0, .int .i64 0, .int .i64 0, .int .i64 0, .int .i64 0, .int .i64 0, .int .i64 0, .int .i64 0, .int .i64 0, .bool false, .int .i64 0, .int .i64 0, .int .i64 0, .int .i64 0, .int .i64 0, .int .i64 0, .int .i64 0, .int .i64 0, .int .i64 0, .string ⟨#[]⟩, .int .i64 0, .int .i64 0, .int .i64 0, .int .i64 0, .slice none 0 0, .slice none 0 0, .int .i64 0] := ⟨_, rfl⟩
  have hzl : zs.length = 28 := by rw [hzs]; rfl
  have hz1 : zs.toArray.all (·.oneCell') = true := by rw [hzs]; simp [Value.oneCell']
  go_enter Tryz.func19, Tryz.ntmps19
  go_upto_region 1 with (fail)
  have hD : BlkAt (w.alloc (.cells #[.int .i64 0, .int .i64 0, .int .i64 0, .int .i64 0, .int .i64 0, .int .i64 0, .int .i64 0, .int .i64 0, .int .i64 0, .int .i64 0, .bool false, .int .i64 0, .int .i64 0, .int .i64 0, .int .i64 0, .int .i64 0, .int .i64 0, .int .i64 0, .int .i64 0, .int .i64 0, .string ⟨#[]⟩, .int .i64 0, .int .i64 0, .int .i64 0, .int .i64 0, .slice none 0 0, .slice none 0 0, .int .i64 0] 40)) w.heap.size 40 [.int .i64 0, .int .i64 0, .int .i64 0, .int .i64 0, .int .i64 0, .int .i64 0, .int .i64 0, .int .i64 0, .int .i64 0, .int .i64 0, .bool false, .int .i64 0, .int .i64 0, .int .i64 0, .int .i64 0, .int .i64 0, .int .i64 0, .int .i64 0, .int .i64 0, .int .i64 0, .string ⟨#[]⟩, .int .i64 0, .int .i64 0, .int .i64 0, .int .i64 0, .slice none 0 0, .slice none 0 0, .int .i64 0] := BlkAt.new w 40 [.int .i64 0, .int .i64 0, .int .i64 0, .int .i64 0, .int .i64 0, .int .i64 0, .int .i64 0, .int .i64 0, .int .i64 0, .int .i64 0, .bool false, .int .i64 0, .int .i64 0, .int .i64 0, .int .i64 0, .int .i64 0, .int .i64 0, .int .i64 0, .int .i64 0, .int .i64 0, .string ⟨#[]⟩, .int .i64 0, .int .i64 0, .int .i64 0, .int .i64 0, .slice none 0 0, .slice none 0 0, .int .i64 0]
  have hb : Below w.heap.size w (w.alloc (.cells #[.int .i64 0, .int .i64 0, .int .i64 0, .int .i64 0, .int .i64 0, .int .i64 0, .int .i64 0, .int .i64 0, .int .i64 0, .int .i64 0, .bool false, .int .i64 0, .int .i64 0, .int .i64 0, .int .i64 0, .int .i64 0, .int .i64 0, .int .i64 0, .int .i64 0, .int .i64 0, .string ⟨#[]⟩, .int .i64 0, .int .i64 0, .int .i64 0, .int .i64 0, .slice none 0 0, .slice none 0 0, .int .i64 0] 40)) := (Below.refl w.heap.size w).alloc (Nat.le_refl _) _
  have hWs : w.heap.size + 1 ≤ (w.alloc (.cells #[.int .i64 0, .int .i64 0, .int .i64 0, .int .i64 0, .int .i64 0, .int .i64 0, .int .i64 0, .int .i64 0, .int .i64 0, .int .i64 0, .bool false, .int .i64 0, .int .i64 0, .int .i64 0, .int .i64 0, .int .i64 0, .int .i64 0, .int .i64 0, .int .i64 0, .int .i64 0, .string ⟨#[]⟩, .int .i64 0, .int .i64 0, .int .i64 0, .int .i64 0, .slice none 0 0, .slice none 0 0, .int .i64 0] 40)).heap.size := by simp
  change Code.wp _ _ _ _ (w.alloc (.cells #[.int .i64 0, .int .i64 0, .int .i64 0, .int .i64 0, .int .i64 0, .int .i64 0, .int .i64 0, .int .i64 0, .int .i64 0, .int .i64 0, .bool false, .int .i64 0, .int .i64 0, .int .i64 0, .int .i64 0, .int .i64 0, .int .i64 0, .int .i64 0, .int .i64 0, .int .i64 0, .string ⟨#[]⟩, .int .i64 0, .int .i64 0, .int .i64 0, .int .i64 0, .slice none 0 0, .slice none 0 0, .int .i64 0] 40))
  generalize w.alloc (.cells #[.int .i64 0, .int .i64 0, .int .i64 0, .int .i64 0, .int .i64 0, .int .i64 0, .int .i64 0, .int .i64 0, .int .i64 0, .int .i64 0, .bool false, .int .i64 0, .int .i64 0, .int .i64 0, .int .i64 0, .int .i64 0, .int .i64 0, .int .i64 0, .int .i64 0, .int .i64 0, .string ⟨#[]⟩, .int .i64 0, .int .i64 0, .int .i64 0, .int .i64 0, .slice none 0 0, .slice none 0 0, .int .i64 0] 40) = W at *
  obtain ⟨D, hDD⟩ : ∃ D, D = w.heap.size := ⟨_, rfl⟩
  have hDw : w.heap.size ≤ D := Nat.le_of_eq hDD.symm
  have hDw2 : D ≤ w.heap.size := Nat.le_of_eq hDD
  have hDs : D + 1 ≤ W.heap.size := by omega
  rw [← hzs] at hD
  rw [← hDD] at hD ⊢
  clear hDD hWs
  have hz : ∀ w, (zeroValue 40).run Tryz.prog w = .ok (.agg zs.toArray) w := fun w => by rw [hzs]; kernel_rfl
  have h := h.below hb
  go_wp2_with fail
  refine (nplace_none (by exact h) i).mono ?_
  rintro en w1 ⟨rfl, rfl⟩
  clear h hDs
  have HM2 := Lib.hid (hD.stored (vs := zs) rfl)
  have HT2 := Lib.hid (blk_there hD)
  have G := grown_setCells D zs 0 W
  have HB2 := Lib.hid (grown_below hb G hDw)
  have HLN := Lib.hid hzl
  have HZS := Lib.hid hzs
  clear hD hb G
  clear hzs
  go_wp2_with (refine wpList_store_mid rfl 40 (.tmp 4) (.tmp 16) rfl D 0 zs.toArray rfl rfl (by exact HT2.out) (by rw [List.size_toArray, hzl]; exact msg_info) hz1 ?_; rw [List.toList_toArray])
  exact bodyPost_ret (v := .tuple #[.agg zs.toArray, .int .i64 10]) (results_msg rfl rfl rfl HM2.out HLN.out) rfl ⟨_, rfl, ⟨.slice none 0 0, .slice none 0 0, by rw [HZS.out]; rfl, ChainFrom.nil _ _, FiresFrom.nil _ _⟩, HB2.out⟩
set_option maxRecDepth 100000 in
set_option maxHeartbeats 2000000 in

theorem npeek_nil (i : Int) (w : World) :
    Calls Tryz.prog 19 #[.pointer none, .int .i64 i] w fun en w' => ∃ u, en = .returned (.tuple #[u, .int .i64 12]) ∧ msgZero.From w.heap.size w' u ∧ Below w.heap.size w w' := by
  obtain ⟨zs, hzs⟩ : ∃ zs : List Value, zs = [.int .i64 0, .int .i64 0, .int .i64 0, .int .i64 0, .int .i64 0, .int .i64 0, .int .i64 0, .int .i64 0, .int .i64 0, .int .i64 0, .bool false, .int .i64 0, .int .i64 0, .int .i64 0, .int .i64 0, .int .i64 0, .int .i64 0, .int .i64 0, .int .i64 0, .int .i64 0, .string ⟨#[]⟩, .int .i64 0, .int .i64 0, .int .i64 0, .int .i64 0, .slice none 0 0, .slice none 0 0, .int .i64 0] := ⟨_, rfl⟩
  have hzl : zs.length = 28 := by rw [hzs]; rfl
  have hz1 : zs.toArray.all (·.oneCell') = true := by rw [hzs]; simp [Value.oneCell']
  go_enter Tryz.func19, Tryz.ntmps19
  go_upto_region 1 with (fail)
  have hD : BlkAt (w.alloc (.cells #[.int .i64 0, .int .i64 0, .int .i64 0, .int .i64 0, .int .i64 0, .int .i64 0, .int .i64 0, .int .i64 0, .int .i64 0, .int .i64 0, .bool false, .int .i64 0, .int .i64 0, .int .i64 0, .int .i64 0, .int .i64 0, .int .i64 0, .int .i64 0, .int .i64 0, .int .i64 0, .string ⟨#[]⟩, .int .i64 0, .int .i64 0, .int .i64 0, .int .i64 0, .slice none 0 0, .slice none 0 0, .int .i64 0] 40)) w.heap.size 40 [.int .i64 0, .int .i64 0, .int .i64 0, .int .i64 0, .int .i64 0, .int .i64 0, .int .i64 0, .int .i64 0, .int .i64 0, .int .i64 0, .bool false, .int .i64 0, .int .i64 0, .int .i64 0, .int .i64 0, .int .i64 0, .int .i64 0, .int .i64 0, .int .i64 0, .int .i64 0, .string ⟨#[]⟩, .int .i64 0, .int .i64 0, .int .i64 0, .int .i64 0, .slice none 0 0, .slice none 0 0, .int .i64 0] := BlkAt.new w 40 [.int .i64 0, .int .i64 0, .int .i64 0, .int .i64 0, .int .i64 0, .int .i64 0, .int .i64 0, .int .i64 0, .int .i64 0, .int .i64 0, .bool false, .int .i64 0, .int .i64 0, .int .i64 0, .int .i64 0, .int .i64 0, .int .i64 0, .int .i64 0, .int .i64 0, .int .i64 0, .string ⟨#[]⟩, .int .i64 0, .int .i64 0, .int .i64 0, .int .i64 0, .slice none 0 0, .slice none 0 0, .int .i64 0]
  have hb : Below w.heap.size w (w.alloc (.cells #[.int .i64 0, .int .i64 0, .int .i64 0, .int .i64 0, .int .i64 0, .int .i64 0, .int .i64 0, .int .i64 0, .int .i64 0, .int .i64 0, .bool false, .int .i64 0, .int .i64 0, .int .i64 0, .int .i64 0, .int .i64 0, .int .i64 0, .int .i64 0, .int .i64 0, .int .i64 0, .string ⟨#[]⟩, .int .i64 0, .int .i64 0, .int .i64 0, .int .i64 0, .slice none 0 0, .slice none 0 0, .int .i64 0] 40)) := (Below.refl w.heap.size w).alloc (Nat.le_refl _) _
  have hWs : w.heap.size + 1 ≤ (w.alloc (.cells #[.int .i64 0, .int .i64 0, .int .i64 0, .int .i64 0, .int .i64 0, .int .i64 0, .int .i64 0, .int .i64 0, .int .i64 0, .int .i64 0, .bool false, .int .i64 0, .int .i64 0, .int .i64 0, .int .i64 0, .int .i64 0, .int .i64 0, .int .i64 0, .int .i64 0, .int .i64 0, .string ⟨#[]⟩, .int .i64 0, .int .i64 0, .int .i64 0, .int .i64 0, .slice none 0 0, .slice none 0 0, .int .i64 0] 40)).heap.size := by simp
  change Code.wp _ _ _ _ (w.alloc (.cells #[.int .i64 0, .int .i64 0, .int .i64 0, .int .i64 0, .int .i64 0, .int .i64 0, .int .i64 0, .int .i64 0, .int .i64 0, .int .i64 0, .bool false, .int .i64 0, .int .i64 0, .int .i64 0, .int .i64 0, .int .i64 0, .int .i64 0, .int .i64 0, .int .i64 0, .int .i64 0, .string ⟨#[]⟩, .int .i64 0, .int .i64 0, .int .i64 0, .int .i64 0, .slice none 0 0, .slice none 0 0, .int .i64 0] 40))
  generalize w.alloc (.cells #[.int .i64 0, .int .i64 0, .int .i64 0, .int .i64 0, .int .i64 0, .int .i64 0, .int .i64 0, .int .i64 0, .int .i64 0, .int .i64 0, .bool false, .int .i64 0, .int .i64 0, .int .i64 0, .int .i64 0, .int .i64 0, .int .i64 0, .int .i64 0, .int .i64 0, .int .i64 0, .string ⟨#[]⟩, .int .i64 0, .int .i64 0, .int .i64 0, .int .i64 0, .slice none 0 0, .slice none 0 0, .int .i64 0] 40) = W at *
  obtain ⟨D, hDD⟩ : ∃ D, D = w.heap.size := ⟨_, rfl⟩
  have hDw : w.heap.size ≤ D := Nat.le_of_eq hDD.symm
  have hDw2 : D ≤ w.heap.size := Nat.le_of_eq hDD
  have hDs : D + 1 ≤ W.heap.size := by omega
  rw [← hzs] at hD
  rw [← hDD] at hD ⊢
  clear hDD hWs
  have hz : ∀ w, (zeroValue 40).run Tryz.prog w = .ok (.agg zs.toArray) w := fun w => by rw [hzs]; kernel_rfl
  go_wp2_with fail
  refine (nplace_nil _ i).mono ?_
  rintro en w1 ⟨rfl, rfl⟩
  clear hDs
  have HM2 := Lib.hid (hD.stored (vs := zs) rfl)
  have HT2 := Lib.hid (blk_there hD)
  have G := grown_setCells D zs 0 W
  have HB2 := Lib.hid (grown_below hb G hDw)
  have HLN := Lib.hid hzl
  have HZS := Lib.hid hzs
  clear hD hb G
  clear hzs
  go_wp2_with (refine wpList_store_mid rfl 40 (.tmp 4) (.tmp 16) rfl D 0 zs.toArray rfl rfl (by exact HT2.out) (by rw [List.size_toArray, hzl]; exact msg_info) hz1 ?_; rw [List.toList_toArray])
  exact bodyPost_ret (v := .tuple #[.agg zs.toArray, .int .i64 12]) (results_msg rfl rfl rfl HM2.out HLN.out) rfl ⟨_, rfl, ⟨.slice none 0 0, .slice none 0 0, by rw [HZS.out]; rfl, ChainFrom.nil _ _, FiresFrom.nil _ _⟩, HB2.out⟩
set_option maxRecDepth 100000 in
set_option maxHeartbeats 2000000 in

theorem npeek_any {B b : Nat} {w : World} {v : Value} {L : List MsgV} {s t : Int} (h : NetAt B w b v L s t) (hL : L ≠ []) (hl : L.length ≤ 1000000) {i : Int} (hi : W64 i) {M : MsgV} (hM : L[placeN i L.length]? = some M) :
    Calls Tryz.prog 19 #[.pointer (some ⟨b, 0, none⟩), .int .i64 i] w fun en w' => ∃ u, en = .returned (.tuple #[u, .int .i64 0]) ∧ M.From w.heap.size w' u ∧ Below w.heap.size w w' := by
  have hG := h.goes hM
  obtain ⟨A, cap, rfl⟩ := h.form
  have hlt : placeN i L.length < L.length := placeN_lt i (List.length_pos_iff.2 hL)
  obtain ⟨zs, hzs⟩ : ∃ zs : List Value, zs = [.int .i64 0, .int .i64 0, .int .i64 0, .int .i64 0, .int .i64 0, .int .i64 0, .int .i64 0, .int .i64 0, .int .i64 0, .int .i64 0, .bool false, .int .i64 0, .int .i64 0, .int .i64 0, .int .i64 0, .int .i64 0, .int .i64 0, .int .i64 0, .int .i64 0, .int .i64 0, .string ⟨#[]⟩, .int .i64 0, .int .i64 0, .int .i64 0, .int .i64 0, .slice none 0 0, .slice none 0 0, .int .i64 0] := ⟨_, rfl⟩
  have hzl : zs.length = 28 := by rw [hzs]; rfl
  have hz1 : zs.toArray.all (·.oneCell') = true := by rw [hzs]; simp [Value.oneCell']
  go_enter Tryz.func19, Tryz.ntmps19
  go_upto_region 1 with (fail)
  have hD : BlkAt (w.alloc (.cells #[.int .i64 0, .int .i64 0, .int .i64 0, .int .i64 0, .int .i64 0, .int .i64 0, .int .i64 0, .int .i64 0, .int .i64 0, .int .i64 0, .bool false, .int .i64 0, .int .i64 0, .int .i64 0, .int .i64 0, .int .i64 0, .int .i64 0, .int .i64 0, .int .i64 0, .int .i64 0, .string ⟨#[]⟩, .int .i64 0, .int .i64 0, .int .i64 0, .int .i64 0, .slice none 0 0, .slice none 0 0, .int .i64 0] 40)) w.heap.size 40 [.int .i64 0, .int .i64 0, .int .i64 0, .int .i64 0, .int .i64 0, .int .i64 0, .int .i64 0, .int .i64 0, .int .i64 0, .int .i64 0, .bool false, .int .i64 0, .int .i64 0, .int .i64 0, .int .i64 0, .int .i64 0, .int .i64 0, .int .i64 0, .int .i64 0, .int .i64 0, .string ⟨#[]⟩, .int .i64 0, .int .i64 0, .int .i64 0, .int .i64 0, .slice none 0 0, .slice none 0 0, .int .i64 0] := BlkAt.new w 40 [.int .i64 0, .int .i64 0, .int .i64 0, .int .i64 0, .int .i64 0, .int .i64 0, .int .i64 0, .int .i64 0, .int .i64 0, .int .i64 0, .bool false, .int .i64 0, .int .i64 0, .int .i64 0, .int .i64 0, .int .i64 0, .int .i64 0, .int .i64 0, .int .i64 0, .int .i64 0, .string ⟨#[]⟩, .int .i64 0, .int .i64 0, .int .i64 0, .int .i64 0, .slice none 0 0, .slice none 0 0, .int .i64 0]
  have hb : Below w.heap.size w (w.alloc (.cells #[.int .i64 0, .int .i64 0, .int .i64 0, .int .i64 0, .int .i64 0, .int .i64 0, .int .i64 0, .int .i64 0, .int .i64 0, .int .i64 0, .bool false, .int .i64 0, .int .i64 0, .int .i64 0, .int .i64 0, .int .i64 0, .int .i64 0, .int .i64 0, .int .i64 0, .int .i64 0, .string ⟨#[]⟩, .int .i64 0, .int .i64 0, .int .i64 0, .int .i64 0, .slice none 0 0, .slice none 0 0, .int .i64 0] 40)) := (Below.refl w.heap.size w).alloc (Nat.le_refl _) _
  have hWs : w.heap.size + 1 ≤ (w.alloc (.cells #[.int .i64 0, .int .i64 0, .int .i64 0, .int .i64 0, .int .i64 0, .int .i64 0, .int .i64 0, .int .i64 0, .int .i64 0, .int .i64 0, .bool false, .int .i64 0, .int .i64 0, .int .i64 0, .int .i64 0, .int .i64 0, .int .i64 0, .int .i64 0, .int .i64 0, .int .i64 0, .string ⟨#[]⟩, .int .i64 0, .int .i64 0, .int .i64 0, .int .i64 0, .slice none 0 0, .slice none 0 0, .int .i64 0] 40)).heap.size := by simp
  change Code.wp _ _ _ _ (w.alloc (.cells #[.int .i64 0, .int .i64 0, .int .i64 0, .int .i64 0, .int .i64 0, .int .i64 0, .int .i64 0, .int .i64 0, .int .i64 0, .int .i64 0, .bool false, .int .i64 0, .int .i64 0, .int .i64 0, .int .i64 0, .int .i64 0, .int .i64 0, .int .i64 0, .int .i64 0, .int .i64 0, .string ⟨#[]⟩, .int .i64 0, .int .i64 0, .int .i64 0, .int .i64 0, .slice none 0 0, .slice none 0 0, .int .i64 0] 40))
  generalize w.alloc (.cells #[.int .i64 0, .int .i64 0, .int .i64 0, .int .i64 0, .int .i64 0, .int .i64 0, .int .i64 0, .int .i64 0, .int .i64 0, .int .i64 0, .bool false, .int .i64 0, .int .i64 0, .int .i64 0, .int .i64 0, .int .i64 0, .int .i64 0, .int .i64 0, .int .i64 0, .int .i64 0, .string ⟨#[]⟩, .int .i64 0, .int .i64 0, .int .i64 0, .int .i64 0, .slice none 0 0, .slice none 0 0, .int .i64 0] 40) = W at *
  obtain ⟨D, hDD⟩ : ∃ D, D = w.heap.size := ⟨_, rfl⟩
  have hDw : w.heap.size ≤ D := Nat.le_of_eq hDD.symm
  have hDw2 : D ≤ w.heap.size := Nat.le_of_eq hDD
  have hDs : D + 1 ≤ W.heap.size := by omega
  rw [← hzs] at hD
  rw [← hDD] at hD ⊢
  clear hDD hWs
  have hz : ∀ w, (zeroValue 40).run Tryz.prog w = .ok (.agg zs.toArray) w := fun w => by rw [hzs]; kernel_rfl
  clear hz
  have h := h.below hb
  go_wp2_with fail
  refine (nplace_any (by exact h) hL hl hi).mono ?_
  rintro en w1 ⟨rfl, rfl⟩
  generalize placeN i L.length = k at *
  have hlt' : (k : Int) < (L.length : Int) := by omega
  obtain ⟨g, rfl, hc⟩ := h.text hM
  have c0 := h.cell0
  clear h hM
  go_wp2_with fail
  refine (wread_any hG.read).mono ?_
  rintro en w2 ⟨u, rfl, hF, b2⟩
  obtain ⟨es, rfl, hlen2, hone2, hF2⟩ := From.parts hF hG.ok.op.1
  have hD2 := hD.below b2
  have hb2 := below_step hb b2
  have hF3 : M.From (D + 1) w2 (.agg es.toArray) := hF2.mono (by omega)
  have hl2 : es.length = zs.length := by rw [hlen2, hzl]
  have HM2 := Lib.hid (hD2.stored (vs := es) hl2)
  have HT2 := Lib.hid (blk_there2 hD2 hl2)
  have G := grown_setCells D es 0 w2
  have HB2 := Lib.hid (grown_below hb2 G hDw)
  have HF2 := Lib.hid ((hF3.grown G (by omega)).mono (show w.heap.size ≤ D + 1 by omega))
  have HLN := Lib.hid hlen2
  clear hF hF2 hF3 hD hb hD2 hb2 G b2 hl2 c0 hc
  go_wp2_with (refine wpList_store_mid rfl 40 (.tmp 4) (.tmp 26) rfl D 0 es.toArray rfl rfl (by exact HT2.out) (by rw [List.size_toArray, hlen2]; exact msg_info) hone2 ?_; rw [List.toList_toArray])
  exact bodyPost_ret (v := .tuple #[.agg es.toArray, .int .i64 0]) (results_msg rfl rfl rfl HM2.out HLN.out) rfl ⟨_, rfl, HF2.out, HB2.out⟩

set_option maxRecDepth 100000 in
set_option maxHeartbeats 2000000 in

theorem ntake_fail {w : World} {n0 : Value} {i x : Int} (hx : x ≠ 0) (hpk : ∀ W, Below w.heap.size w W → Calls Tryz.prog 19 #[n0, .int .i64 i] W fun en w' => ∃ u, en = .returned (.tuple #[u, .int .i64 x]) ∧ msgZero.From W.heap.size w' u ∧ Below W.heap.size W w') :
    Calls Tryz.prog 13 #[n0, .int .i64 i] w fun en w' => ∃ u, en = .returned (.tuple #[u, .int .i64 x]) ∧ msgZero.From w.heap.size w' u ∧ Below w.heap.size w w' := by
  have hxb : (x != 0) = true := by simpa using hx
  obtain ⟨zs, hzs⟩ : ∃ zs : List Value, zs = [.int .i64 0, .int .i64 0, .int .i64 0, .int .i64 0, .int .i64 0, .int .i64 0, .int .i64 0, .int .i64 0, .int .i64 0, .int .i64 0, .bool false, .int .i64 0, .int .i64 0, .int .i64 0, .int .i64 0, .int .i64 0, .int .i64 0, .int .i64 0, .int .i64 0, .int .i64 0, .string ⟨#[]⟩, .int .i64 0, .int .i64 0, .int .i64 0, .int .i64 0, .slice none 0 0, .slice none 0 0, .int .i64 0] := ⟨_, rfl⟩
  have hzl : zs.length = 28 := by rw [hzs]; rfl
  have hz1 : zs.toArray.all (·.oneCell') = true := by rw [hzs]; simp [Value.oneCell']
  go_enter Tryz.func13, Tryz.ntmps13
  go_upto_region 1 with (fail)
  have hD : BlkAt (w.alloc (.cells #[.int .i64 0, .int .i64 0, .int .i64 0, .int .i64 0, .int .i64 0, .int .i64 0, .int .i64 0, .int .i64 0, .int .i64 0, .int .i64 0, .bool false, .int .i64 0, .int .i64 0, .int .i64 0, .int .i64 0, .int .i64 0, .int .i64 0, .int .i64 0, .int .i64 0, .int .i64 0, .string ⟨#[]⟩, .int .i64 0, .int .i64 0, .int .i64 0, .int .i64 0, .slice none 0 0, .slice none 0 0, .int .i64 0] 40)) w.heap.size 40 [.int .i64 0, .int .i64 0, .int .i64 0, .int .i64 0, .int .i64 0, .int .i64 0, .int .i64 0, .int .i64 0, .int .i64 0, .int .i64 0, .bool false, .int .i64 0, .int .i64 0, .int .i64 0, .int .i64 0, .int .i64 0, .int .i64 0, .int .i64 0, .int .i64 0, .int .i64 0, .string ⟨#[]⟩, .int .i64 0, .int .i64 0, .int .i64 0, .int .i64 0, .slice none 0 0, .slice none 0 0, .int .i64 0] := BlkAt.new w 40 [.int .i64 0, .int .i64 0, .int .i64 0, .int .i64 0, .int .i64 0, .int .i64 0, .int .i64 0, .int .i64 0, .int .i64 0, .int .i64 0, .bool false, .int .i64 0, .int .i64 0, .int .i64 0, .int .i64 0, .int .i64 0, .int .i64 0, .int .i64 0, .int .i64 0, .int .i64 0, .string ⟨#[]⟩, .int .i64 0, .int .i64 0, .int .i64 0, .int .i64 0, .slice none 0 0, .slice none 0 0, .int .i64 0]
  have hb : Below w.heap.size w (w.alloc (.cells #[.int .i64 0, .int .i64 0, .int .i64 0, .int .i64 0, .int .i64 0, .int .i64 0, .int .i64 0, .int .i64 0, .int .i64 0, .int .i64 0, .bool false, .int .i64 0, .int .i64 0, .int .i64 0, .int .i64 0, .int .i64 0, .int .i64 0, .int .i64 0, .int .i64 0, .int .i64 0, .string ⟨#[]⟩, .int .i64 0, .int .i64 0, .int .i64 0, .int .i64 0, .slice none 0 0, .slice none 0 0, .int .i64 0] 40)) := (Below.refl w.heap.size w).alloc (Nat.le_refl _) _
  have hWs : w.heap.size + 1 ≤ (w.alloc (.cells #[.int .i64 0, .int .i64 0, .int .i64 0, .int .i64 0, .int .i64 0, .int .i64 0, .int .i64 0, .int .i64 0, .int .i64 0, .int .i64 0, .bool false, .int .i64 0, .int .i64 0, .int .i64 0, .int .i64 0, .int .i64 0, .int .i64 0, .int .i64 0, .int .i64 0, .int .i64 0, .string ⟨#[]⟩, .int .i64 0, .int .i64 0, .int .i64 0, .int .i64 0, .slice none 0 0, .slice none 0 0, .int .i64 0] 40)).heap.size := by simp
  change Code.wp _ _ _ _ (w.alloc (.cells #[.int .i64 0, .int .i64 0, .int .i64 0, .int .i64 0, .int .i64 0, .int .i64 0, .int .i64 0, .int .i64 0, .int .i64 0, .int .i64 0, .bool false, .int .i64 0, .int .i64 0, .int .i64 0, .int .i64 0, .int .i64 0, .int .i64 0, .int .i64 0, .int .i64 0, .int .i64 0, .string ⟨#[]⟩, .int .i64 0, .int .i64 0, .int .i64 0, .int .i64 0, .slice none 0 0, .slice none 0 0, .int .i64 0] 40))
  generalize w.alloc (.cells #[.int .i64 0, .int .i64 0, .int .i64 0, .int .i64 0, .int .i64 0, .int .i64 0, .int .i64 0, .int .i64 0, .int .i64 0, .int .i64 0, .bool false, .int .i64 0, .int .i64 0, .int .i64 0, .int .i64 0, .int .i64 0, .int .i64 0, .int .i64 0, .int .i64 0, .int .i64 0, .string ⟨#[]⟩, .int .i64 0, .int .i64 0, .int .i64 0, .int .i64 0, .slice none 0 0, .slice none 0 0, .int .i64 0] 40) = W at *
  obtain ⟨D, hDD⟩ : ∃ D, D = w.heap.size := ⟨_, rfl⟩
  have hDw : w.heap.size ≤ D := Nat.le_of_eq hDD.symm
  have hDw2 : D ≤ w.heap.size := Nat.le_of_eq hDD
  have hDs : D + 1 ≤ W.heap.size := by omega
  rw [← hzs] at hD
  rw [← hDD] at hD ⊢
  clear hDD hWs
  have hz : ∀ w, (zeroValue 40).run Tryz.prog w = .ok (.agg zs.toArray) w := fun w => by rw [hzs]; kernel_rfl
  clear hz
  go_wp2_with fail
  refine (hpk W hb).mono ?_
  rintro en w1 ⟨u, rfl, hF, b1⟩
  obtain ⟨es, rfl, hlen2, hone2, hF2⟩ := From.parts hF rfl
  have hD := hD.below b1
  have hbq := below_step hb b1
  clear hb
  have hb := hbq
  clear hbq hF
  have hF3 : msgZero.From (D + 1) w1 (.agg es.toArray) := hF2.mono (by omega)
  have hDs1 : D + 1 ≤ w1.heap.size := by have := b1.size; omega
  clear hF2 b1 hDs
  have hX := BlkAt.new w1 40 [.int .i64 0, .int .i64 0, .int .i64 0, .int .i64 0, .int .i64 0, .int .i64 0, .int .i64 0, .int .i64 0, .int .i64 0, .int .i64 0, .bool false, .int .i64 0, .int .i64 0, .int .i64 0, .int .i64 0, .int .i64 0, .int .i64 0, .int .i64 0, .int .i64 0, .int .i64 0, .string ⟨#[]⟩, .int .i64 0, .int .i64 0, .int .i64 0, .int .i64 0, .slice none 0 0, .slice none 0 0, .int .i64 0]
  have HL1 := Lib.hid (show es.length = ([.int .i64 0, .int .i64 0, .int .i64 0, .int .i64 0, .int .i64 0, .int .i64 0, .int .i64 0, .int .i64 0, .int .i64 0, .int .i64 0, .bool false, .int .i64 0, .int .i64 0, .int .i64 0, .int .i64 0, .int .i64 0, .int .i64 0, .int .i64 0, .int .i64 0, .int .i64 0, .string ⟨#[]⟩, .int .i64 0, .int .i64 0, .int .i64 0, .int .i64 0, .slice none 0 0, .slice none 0 0, .int .i64 0] : List Value).length by rw [hlen2]; rfl)
  have b4 := (Below.refl w1.heap.size w1).alloc (Nat.le_refl _) (.cells #[.int .i64 0, .int .i64 0, .int .i64 0, .int .i64 0, .int .i64 0, .int .i64 0, .int .i64 0, .int .i64 0, .int .i64 0, .int .i64 0, .bool false, .int .i64 0, .int .i64 0, .int .i64 0, .int .i64 0, .int .i64 0, .int .i64 0, .int .i64 0, .int .i64 0, .int .i64 0, .string ⟨#[]⟩, .int .i64 0, .int .i64 0, .int .i64 0, .int .i64 0, .slice none 0 0, .slice none 0 0, .int .i64 0] 40)
  have G4 := grown_setCells w1.heap.size es 0 (w1.alloc (.cells #[.int .i64 0, .int .i64 0, .int .i64 0, .int .i64 0, .int .i64 0, .int .i64 0, .int .i64 0, .int .i64 0, .int .i64 0, .int .i64 0, .bool false, .int .i64 0, .int .i64 0, .int .i64 0, .int .i64 0, .int .i64 0, .int .i64 0, .int .i64 0, .int .i64 0, .int .i64 0, .string ⟨#[]⟩, .int .i64 0, .int .i64 0, .int .i64 0, .int .i64 0, .slice none 0 0, .slice none 0 0, .int .i64 0] 40))
  have b5 := b4.grown G4 b4.size (by intro j hj; cases hj; exact Nat.le_refl _)
  have hYn := hX.stored (vs := es) HL1.out
  have HT := Lib.hid (blk_there2 hX HL1.out)
  have hDn := hD.below b5
  clear hD
  have hD := hDn
  clear hDn
  have hF3n := hF3.below b5
  clear hF3
  have hF3 := hF3n
  clear hF3n
  have hbn := below_step hb b5
  clear hb
  have hb := hbn
  clear hbn
  clear hX b4 G4 b5 HL1
  go_upto_region 2 with (first | (refine wpList_store_mid rfl 40 (.tmp 6) (.tmp 14) rfl w1.heap.size 0 es.toArray rfl rfl (by exact HT.out) (by rw [List.size_toArray, hlen2]; exact msg_info) hone2 ?_; rw [List.toList_toArray]))
  change Code.wp _ _ _ _ ((w1.alloc (.cells #[.int .i64 0, .int .i64 0, .int .i64 0, .int .i64 0, .int .i64 0, .int .i64 0, .int .i64 0, .int .i64 0, .int .i64 0, .int .i64 0, .bool false, .int .i64 0, .int .i64 0, .int .i64 0, .int .i64 0, .int .i64 0, .int .i64 0, .int .i64 0, .int .i64 0, .int .i64 0, .string ⟨#[]⟩, .int .i64 0, .int .i64 0, .int .i64 0, .int .i64 0, .slice none 0 0, .slice none 0 0, .int .i64 0] 40)).setCells w1.heap.size 0 es)
  generalize (w1.alloc (.cells #[.int .i64 0, .int .i64 0, .int .i64 0, .int .i64 0, .int .i64 0, .int .i64 0, .int .i64 0, .int .i64 0, .int .i64 0, .int .i64 0, .bool false, .int .i64 0, .int .i64 0, .int .i64 0, .int .i64 0, .int .i64 0, .int .i64 0, .int .i64 0, .int .i64 0, .int .i64 0, .string ⟨#[]⟩, .int .i64 0, .int .i64 0, .int .i64 0, .int .i64 0, .slice none 0 0, .slice none 0 0, .int .i64 0] 40)).setCells w1.heap.size 0 es = W2 at *
  have hY := hYn
  clear hYn HT
  obtain ⟨y, hLL⟩ : ∃ q, q = w1.heap.size := ⟨_, rfl⟩
  rw [← hLL] at hY ⊢
  have HEy := Lib.hid hLL
  clear hLL
  have hl2 : es.length = zs.length := by rw [hlen2, hzl]
  have HM2 := Lib.hid (hD.stored (vs := es) hl2)
  have HT2 := Lib.hid (blk_there2 hD hl2)
  have G := grown_setCells D es 0 W2
  have HLN := Lib.hid hlen2
  have HB2 := Lib.hid (grown_below hb G hDw)
  have HF2 := Lib.hid ((hF3.grown G (by omega)).mono (show w.heap.size ≤ D + 1 by omega))
  clear hF3 hD hb G hl2
  go_wp2_with (first | (refine wpList_load_mid rfl 40 (.tmp 6) rfl y 0 rfl es _ hY.range Tryz.underlying40 rfl (by rw [hlen2]; exact msg_info) ?_; simp only [Act.put, List.setIfInBounds_toArray, List.set_cons_zero, List.set_cons_succ]) | (refine wpList_store_mid rfl 40 (.tmp 4) (.tmp 18) rfl D 0 es.toArray rfl rfl (by exact HT2.out) (by rw [List.size_toArray, hlen2]; exact msg_info) hone2 ?_; rw [List.toList_toArray]))
  exact bodyPost_ret (v := .tuple #[.agg es.toArray, .int .i64 x]) (results_msg rfl rfl rfl HM2.out HLN.out) rfl ⟨_, rfl, HF2.out, HB2.out⟩
theorem ntake_none {B b : Nat} {w : World} {v : Value} {s t : Int} (h : NetAt B w b v [] s t) (i : Int) :
    Calls Tryz.prog 13 #[.pointer (some ⟨b, 0, none⟩), .int .i64 i] w fun en w' => ∃ u, en = .returned (.tuple #[u, .int .i64 10]) ∧ msgZero.From w.heap.size w' u ∧ Below w.heap.size w w' :=
  ntake_fail (by decide) fun W hb => npeek_none (h.below hb) i
theorem ntake_nil (i : Int) (w : World) :
    Calls Tryz.prog 13 #[.pointer none, .int .i64 i] w fun en w' => ∃ u, en = .returned (.tuple #[u, .int .i64 12]) ∧ msgZero.From w.heap.size w' u ∧ Below w.heap.size w w' :=
  ntake_fail (by decide) fun W hb => npeek_nil i W
set_option maxRecDepth 100000 in
set_option maxHeartbeats 4000000 in

theorem ntake_any {B b : Nat} {w : World} {v : Value} {L : List MsgV} {s t : Int} (h : NetAt B w b v L s t) (hL : L ≠ []) (hl : L.length ≤ 1000000) (ht : 0 ≤ t ∧ t ≤ 1000000000) {i : Int} (hi : W64 i) {M : MsgV} (hM : L[placeN i L.length]? = some M) :
    Calls Tryz.prog 13 #[.pointer (some ⟨b, 0, none⟩), .int .i64 i] w fun en w' => ∃ u v', en = .returned (.tuple #[u, .int .i64 0]) ∧ M.From w.heap.size w' u ∧ NetAt B w' b v' (takeN_ L i) s (t + 1) ∧ NKept w w' b v.ownBlock ∧ v'.ownBlock = v.ownBlock := by
  have hG := h.goes hM
  have hbl := h.lt
  have hrl := h.row
  obtain ⟨A, cap, rfl⟩ := h.form
  have hlt : placeN i L.length < L.length := placeN_lt i (List.length_pos_iff.2 hL)
  have HT := Lib.hid ht
  clear ht
  obtain ⟨zs, hzs⟩ : ∃ zs : List Value, zs = [.int .i64 0, .int .i64 0, .int .i64 0, .int .i64 0, .int .i64 0, .int .i64 0, .int .i64 0, .int .i64 0, .int .i64 0, .int .i64 0, .bool false, .int .i64 0, .int .i64 0, .int .i64 0, .int .i64 0, .int .i64 0, .int .i64 0, .int .i64 0, .int .i64 0, .int .i64 0, .string ⟨#[]⟩, .int .i64 0, .int .i64 0, .int .i64 0, .int .i64 0, .slice none 0 0, .slice none 0 0, .int .i64 0] := ⟨_, rfl⟩
  have hzl : zs.length = 28 := by rw [hzs]; rfl
  have hz1 : zs.toArray.all (·.oneCell') = true := by rw [hzs]; simp [Value.oneCell']
  go_enter Tryz.func13, Tryz.ntmps13
  go_upto_region 1 with (fail)
  have hD : BlkAt (w.alloc (.cells #[.int .i64 0, .int .i64 0, .int .i64 0, .int .i64 0, .int .i64 0, .int .i64 0, .int .i64 0, .int .i64 0, .int .i64 0, .int .i64 0, .bool false, .int .i64 0, .int .i64 0, .int .i64 0, .int .i64 0, .int .i64 0, .int .i64 0, .int .i64 0, .int .i64 0, .int .i64 0, .string ⟨#[]⟩, .int .i64 0, .int .i64 0, .int .i64 0, .int .i64 0, .slice none 0 0, .slice none 0 0, .int .i64 0] 40)) w.heap.size 40 [.int .i64 0, .int .i64 0, .int .i64 0, .int .i64 0, .int .i64 0, .int .i64 0, .int .i64 0, .int .i64 0, .int .i64 0, .int .i64 0, .bool false, .int .i64 0, .int .i64 0, .int .i64 0, .int .i64 0, .int .i64 0, .int .i64 0, .int .i64 0, .int .i64 0, .int .i64 0, .string ⟨#[]⟩, .int .i64 0, .int .i64 0, .int .i64 0, .int .i64 0, .slice none 0 0, .slice none 0 0, .int .i64 0] := BlkAt.new w 40 [.int .i64 0, .int .i64 0, .int .i64 0, .int .i64 0, .int .i64 0, .int .i64 0, .int .i64 0, .int .i64 0, .int .i64 0, .int .i64 0, .bool false, .int .i64 0, .int .i64 0, .int .i64 0, .int .i64 0, .int .i64 0, .int .i64 0, .int .i64 0, .int .i64 0, .int .i64 0, .string ⟨#[]⟩, .int .i64 0, .int .i64 0, .int .i64 0, .int .i64 0, .slice none 0 0, .slice none 0 0, .int .i64 0]
  have hb : Below w.heap.size w (w.alloc (.cells #[.int .i64 0, .int .i64 0, .int .i64 0, .int .i64 0, .int .i64 0, .int .i64 0, .int .i64 0, .int .i64 0, .int .i64 0, .int .i64 0, .bool false, .int .i64 0, .int .i64 0, .int .i64 0, .int .i64 0, .int .i64 0, .int .i64 0, .int .i64 0, .int .i64 0, .int .i64 0, .string ⟨#[]⟩, .int .i64 0, .int .i64 0, .int .i64 0, .int .i64 0, .slice none 0 0, .slice none 0 0, .int .i64 0] 40)) := (Below.refl w.heap.size w).alloc (Nat.le_refl _) _
  have hWs : w.heap.size + 1 ≤ (w.alloc (.cells #[.int .i64 0, .int .i64 0, .int .i64 0, .int .i64 0, .int .i64 0, .int .i64 0, .int .i64 0, .int .i64 0, .int .i64 0, .int .i64 0, .bool false, .int .i64 0, .int .i64 0, .int .i64 0, .int .i64 0, .int .i64 0, .int .i64 0, .int .i64 0, .int .i64 0, .int .i64 0, .string ⟨#[]⟩, .int .i64 0, .int .i64 0, .int .i64 0, .int .i64 0, .slice none 0 0, .slice none 0 0, .int .i64 0] 40)).heap.size := by simp
  change Code.wp _ _ _ _ (w.alloc (.cells #[.int .i64 0, .int .i64 0, .int .i64 0, .int .i64 0, .int .i64 0, .int .i64 0, .int .i64 0, .int .i64 0, .int .i64 0, .int .i64 0, .bool false, .int .i64 0, .int .i64 0, .int .i64 0, .int .i64 0, .int .i64 0, .int .i64 0, .int .i64 0, .int .i64 0, .int .i64 0, .string ⟨#[]⟩, .int .i64 0, .int .i64 0, .int .i64 0, .int .i64 0, .slice none 0 0, .slice none 0 0, .int .i64 0] 40))
  generalize w.alloc (.cells #[.int .i64 0, .int .i64 0, .int .i64 0, .int .i64 0, .int .i64 0, .int .i64 0, .int .i64 0, .int .i64 0, .int .i64 0, .int .i64 0, .bool false, .int .i64 0, .int .i64 0, .int .i64 0, .int .i64 0, .int .i64 0, .int .i64 0, .int .i64 0, .int .i64 0, .int .i64 0, .string ⟨#[]⟩, .int .i64 0, .int .i64 0, .int .i64 0, .int .i64 0, .slice none 0 0, .slice none 0 0, .int .i64 0] 40) = W at *
  obtain ⟨D, hDD⟩ : ∃ D, D = w.heap.size := ⟨_, rfl⟩
  have hDw : w.heap.size ≤ D := Nat.le_of_eq hDD.symm
  have hDw2 : D ≤ w.heap.size := Nat.le_of_eq hDD
  have hDs : D + 1 ≤ W.heap.size := by omega
  rw [← hzs] at hD
  rw [← hDD] at hD ⊢
  clear hDD hWs
  have hz : ∀ w, (zeroValue 40).run Tryz.prog w = .ok (.agg zs.toArray) w := fun w => by rw [hzs]; kernel_rfl
  clear hz
  have hN := h.below hb
  clear h
  go_wp2_with fail
  refine (npeek_any (by exact hN) hL hl hi hM).mono ?_
  rintro en w1 ⟨u, rfl, hF, b1⟩
  obtain ⟨es, rfl, hlen2, hone2, hF2⟩ := From.parts hF hG.ok.op.1
  have hD := hD.below b1
  have hN := hN.below b1
  have hbq := below_step hb b1
  clear hb
  have hb := hbq
  clear hbq hF
  have hF3 : M.From (D + 1) w1 (.agg es.toArray) := hF2.mono (by omega)
  have hDs1 : D + 1 ≤ w1.heap.size := by have := b1.size; omega
  clear hF2 b1 hDs
  have hX := BlkAt.new w1 40 [.int .i64 0, .int .i64 0, .int .i64 0, .int .i64 0, .int .i64 0, .int .i64 0, .int .i64 0, .int .i64 0, .int .i64 0, .int .i64 0, .bool false, .int .i64 0, .int .i64 0, .int .i64 0, .int .i64 0, .int .i64 0, .int .i64 0, .int .i64 0, .int .i64 0, .int .i64 0, .string ⟨#[]⟩, .int .i64 0, .int .i64 0, .int .i64 0, .int .i64 0, .slice none 0 0, .slice none 0 0, .int .i64 0]
  have HL1 := Lib.hid (show es.length = ([.int .i64 0, .int .i64 0, .int .i64 0, .int .i64 0, .int .i64 0, .int .i64 0, .int .i64 0, .int .i64 0, .int .i64 0, .int .i64 0, .bool false, .int .i64 0, .int .i64 0, .int .i64 0, .int .i64 0, .int .i64 0, .int .i64 0, .int .i64 0, .int .i64 0, .int .i64 0, .string ⟨#[]⟩, .int .i64 0, .int .i64 0, .int .i64 0, .int .i64 0, .slice none 0 0, .slice none 0 0, .int .i64 0] : List Value).length by rw [hlen2]; rfl)
  have b4 := (Below.refl w1.heap.size w1).alloc (Nat.le_refl _) (.cells #[.int .i64 0, .int .i64 0, .int .i64 0, .int .i64 0, .int .i64 0, .int .i64 0, .int .i64 0, .int .i64 0, .int .i64 0, .int .i64 0, .bool false, .int .i64 0, .int .i64 0, .int .i64 0, .int .i64 0, .int .i64 0, .int .i64 0, .int .i64 0, .int .i64 0, .int .i64 0, .string ⟨#[]⟩, .int .i64 0, .int .i64 0, .int .i64 0, .int .i64 0, .slice none 0 0, .slice none 0 0, .int .i64 0] 40)
  have G4 := grown_setCells w1.heap.size es 0 (w1.alloc (.cells #[.int .i64 0, .int .i64 0, .int .i64 0, .int .i64 0, .int .i64 0, .int .i64 0, .int .i64 0, .int .i64 0, .int .i64 0, .int .i64 0, .bool false, .int .i64 0, .int .i64 0, .int .i64 0, .int .i64 0, .int .i64 0, .int .i64 0, .int .i64 0, .int .i64 0, .int .i64 0, .string ⟨#[]⟩, .int .i64 0, .int .i64 0, .int .i64 0, .int .i64 0, .slice none 0 0, .slice none 0 0, .int .i64 0] 40))
  have b5 := b4.grown G4 b4.size (by intro j hj; cases hj; exact Nat.le_refl _)
  have hYn := hX.stored (vs := es) HL1.out
  have HT := Lib.hid (blk_there2 hX HL1.out)
  have hDn := hD.below b5
  clear hD
  have hD := hDn
  clear hDn
  have hF3n := hF3.below b5
  clear hF3
  have hF3 := hF3n
  clear hF3n
  have hNn := hN.below b5
  clear hN
  have hN := hNn
  clear hNn
  have hbn := below_step hb b5
  clear hb
  have hb := hbn
  clear hbn
  clear hX b4 G4 b5 HL1
  go_upto_region 2 with (first | (refine wpList_store_mid rfl 40 (.tmp 6) (.tmp 14) rfl w1.heap.size 0 es.toArray rfl rfl (by exact HT.out) (by rw [List.size_toArray, hlen2]; exact msg_info) hone2 ?_; rw [List.toList_toArray]))
  change Code.wp _ _ _ _ ((w1.alloc (.cells #[.int .i64 0, .int .i64 0, .int .i64 0, .int .i64 0, .int .i64 0, .int .i64 0, .int .i64 0, .int .i64 0, .int .i64 0, .int .i64 0, .bool false, .int .i64 0, .int .i64 0, .int .i64 0, .int .i64 0, .int .i64 0, .int .i64 0, .int .i64 0, .int .i64 0, .int .i64 0, .string ⟨#[]⟩, .int .i64 0, .int .i64 0, .int .i64 0, .int .i64 0, .slice none 0 0, .slice none 0 0, .int .i64 0] 40)).setCells w1.heap.size 0 es)
  generalize (w1.alloc (.cells #[.int .i64 0, .int .i64 0, .int .i64 0, .int .i64 0, .int .i64 0, .int .i64 0, .int .i64 0, .int .i64 0, .int .i64 0, .int .i64 0, .bool false, .int .i64 0, .int .i64 0, .int .i64 0, .int .i64 0, .int .i64 0, .int .i64 0, .int .i64 0, .int .i64 0, .int .i64 0, .string ⟨#[]⟩, .int .i64 0, .int .i64 0, .int .i64 0, .int .i64 0, .slice none 0 0, .slice none 0 0, .int .i64 0] 40)).setCells w1.heap.size 0 es = W2 at *
  have hY := hYn
  clear hYn HT
  obtain ⟨y, hLL⟩ : ∃ q, q = w1.heap.size := ⟨_, rfl⟩
  rw [← hLL] at hY ⊢
  have HEy := Lib.hid hLL
  clear hLL
  go_wp2_with fail
  refine (nplace_any (by exact hN) hL hl hi).mono ?_
  rintro en w3 ⟨rfl, rfl⟩
  have HK0 : Hid (takeN_ L i = L.eraseIdx (placeN i L.length)) := Lib.hid rfl
  generalize placeN i L.length = k at *
  have hkk : (k : Int) + 1 ≤ 9223372036854775807 := by omega
  obtain ⟨g, rfl, hc⟩ := hN.text hM
  have hgl := hrl g rfl
  have c0 := hN.cell0
  have hown : W2.ownsRow B 9 1 (.slice (some ⟨g, 0, none⟩) (L.map ptext).length cap) (L.map ptext).length (strsCells (L.map ptext)) := by rw [List.length_map]; exact hN.2.2.1
  have hdel := ndelete_any hown (k := k) (by rw [List.length_map]; exact hlt) (by rw [List.length_map]; exact hl)
  rw [List.length_map] at hdel
  clear hc hown
  go_wp2_with fail
  refine hdel.mono ?_
  rintro en w4 ⟨rfl, hown4, hg4⟩
  have hgb : some b ≠ some g := by have := hN.apart; simpa [Value.ownBlock] using this
  have hgb' : b ≠ g := fun e => hgb (by rw [e])
  have hgD : D ≠ g := by omega
  have hyg : y ≠ g := by rw [HEy.out]; omega
  have hyb : y ≠ b := by rw [HEy.out]; omega
  have hbD : b ≠ D := by omega
  have hbk4 : w4.heap[b]? = some (.cells #[.slice (some ⟨g, 0, none⟩) L.length cap, .int .i64 s, .int .i64 t] 76 (0, 0)) := (hg4.block b hN.lt hgb).trans hN.2.1
  have hD4 := hD.grown hg4 hgD
  have hY4 := hY.grown hg4 hyg
  have hF4 := hF3.grown hg4 (by omega)
  have hLe : strsCells ((L.map ptext).eraseIdx k) = strsCells ((L.eraseIdx k).map ptext) := by rw [List.eraseIdx_eq_take_drop_succ, List.eraseIdx_eq_take_drop_succ, List.map_append, List.map_take, List.map_drop]
  have hle : (L.eraseIdx k).length = L.length - 1 := by rw [List.length_eraseIdx, if_pos hlt]
  rw [hLe] at hown4
  have hgo : ∀ K ∈ L.eraseIdx k, Goes K := fun K hK => hN.2.2.2 K (List.mem_of_mem_eraseIdx hK)
  have hN5 : NetAt B (w4.setCell ⟨b, 0, none⟩ (.slice (some ⟨g, 0, none⟩) (L.length - 1) cap)) b (.slice (some ⟨g, 0, none⟩) (L.length - 1) cap) (L.eraseIdx k) s t := NetAt.put0 hN.1 hbk4 (by rw [hle]; exact hown4) hgo
  have G5 := grown_setCell w4 b 0 (.slice (some ⟨g, 0, none⟩) (L.length - 1) cap)
  have hD5 := hD4.grown G5 hbD.symm
  have hY5 := hY4.grown G5 hyb
  have hF5 := hF4.grown G5 (by omega)
  have hk5 : NKept w (w4.setCell ⟨b, 0, none⟩ (.slice (some ⟨g, 0, none⟩) (L.length - 1) cap)) b (some g) := ((NKept.of_below hb).trans (NKept.of_grown hg4)).trans (NKept.of_grownB G5)
  have c04 := cell_of_row _ _ 0 _ _ _ hbk4
  have hf4 : w4.frozen? ⟨b, 0, none⟩ = false := by simp [World.frozen?, hbk4]
  have HN5 := Lib.hid hN5
  have HD5 := Lib.hid hD5
  have HY5 := Lib.hid hY5
  have HF5 := Lib.hid hF5
  have HK5 := Lib.hid hk5
  clear hN hD hY hF3 hb hown4 hg4 hbk4 hD4 hY4 hF4 hN5 G5 hD5 hY5 hF5 hk5 hdel c0
  go_upto_region 6 with (fail)
  change Code.wp _ _ _ _ (w4.setCell ⟨b, 0, none⟩ (.slice (some ⟨g, 0, none⟩) (L.length - 1) cap))
  generalize w4.setCell ⟨b, 0, none⟩ (.slice (some ⟨g, 0, none⟩) (L.length - 1) cap) = w5 at *
  have hN := HN5.out
  have c2 := hN.cell2
  have hf2 := hN.free 2
  have G6 := grown_setCell w5 b 2 (.int .i64 (t + 1))
  have HN6 := Lib.hid (hN.set2 (t + 1))
  have hD := HD5.out.grown G6 hbD.symm
  have hY := HY5.out.grown G6 hyb
  have HF6 := Lib.hid (HF5.out.grown G6 (by omega))
  have HK6 := Lib.hid (HK5.out.trans (NKept.of_grownB G6))
  clear hN G6 HN5 HD5 HY5 HF5 HK5 c04 hf4
  go_wp2_with fail
  refine (aadd_any (by exact c2) (by exact hf2) HT.out).mono ?_
  rintro en w55 ⟨rfl, rfl⟩
  clear c2 hf2
  go_upto_region 7 with (fail)
  change Code.wp _ _ _ _ (w5.setCell ⟨b, 2, none⟩ (.int .i64 (t + 1)))
  generalize w5.setCell ⟨b, 2, none⟩ (.int .i64 (t + 1)) = w6 at *
  have hl2 : es.length = zs.length := by rw [hlen2, hzl]
  have HM2 := Lib.hid (hD.stored (vs := es) hl2)
  have HT2 := Lib.hid (blk_there2 hD hl2)
  have G := grown_setCells D es 0 w6
  have HLN := Lib.hid hlen2
  have HF2 := Lib.hid ((HF6.out.grown G (by omega)).mono (show w.heap.size ≤ D + 1 by omega))
  have HN7 := Lib.hid (HN6.out.grown G (by simpa using hbD) (.inr (by simpa [Value.ownBlock] using hgD.symm)))
  have HK7 : Hid (NKept w (w6.setCells D 0 es) b (some g)) := Lib.hid ⟨G.os.trans HK6.out.os, G.tape.trans HK6.out.tape, G.output.trans HK6.out.output, Nat.le_trans HK6.out.size G.size, fun j hj h1 h2 => (G.block j (Nat.lt_of_lt_of_le hj HK6.out.size) (by simp; omega)).trans (HK6.out.block j hj h1 h2)⟩
  clear hD G HF6 HN6 HK6 hl2
  go_wp2_with (first | (refine wpList_load_mid rfl 40 (.tmp 6) rfl y 0 rfl es _ hY.range Tryz.underlying40 rfl (by rw [hlen2]; exact msg_info) ?_; simp only [Act.put, List.setIfInBounds_toArray, List.set_cons_zero, List.set_cons_succ]) | (refine wpList_store_mid rfl 40 (.tmp 4) (.tmp 42) rfl D 0 es.toArray rfl rfl (by exact HT2.out) (by rw [List.size_toArray, hlen2]; exact msg_info) hone2 ?_; rw [List.toList_toArray]))
  exact bodyPost_ret (v := .tuple #[.agg es.toArray, .int .i64 0]) (results_msg rfl rfl rfl HM2.out HLN.out) rfl ⟨_, .slice (some ⟨g, 0, none⟩) (L.length - 1) cap, rfl, HF2.out, by rw [HK0.out]; exact HN7.out, HK7.out, rfl⟩
set_option maxRecDepth 100000 in
set_option maxHeartbeats 1000000 in
theorem ncounts_any {B b : Nat} {w : World} {v : Value} {L : List MsgV} {s t : Int} (h : NetAt B w b v L s t) :
    Calls Tryz.prog 25 #[.pointer (some ⟨b, 0, none⟩)] w fun e w' => e = .returned (.tuple #[.int .i64 s, .int .i64 t]) ∧ ∃ n, w' = w.drewN n := by
  have c1 := h.cell1
  have c2 := h.cell2
  clear h
  go_enter Tryz.func25, Tryz.ntmps25
  go_upto_region 3 with (fail)
  go_region_held3 (fun w' => w'.cell? ⟨b, 1, none⟩ = some (.int .i64 s) ∧ w'.cell? ⟨b, 2, none⟩ = some (.int .i64 t))
    (first | exact ⟨c1, c2⟩ | go_keep)
    (first
      | (go_at_call 39; refine (aload_any (a := ⟨b, 1, none⟩) (by exact c1)).mono ?_; rintro en wz ⟨rfl, rfl⟩)
      | (go_at_call 39; refine (aload_any (a := ⟨b, 2, none⟩) (by exact c2)).mono ?_; rintro en wz ⟨rfl, rfl⟩))
  go_wp2_with fail
  go_ret2
  exact ⟨rfl, 1, rfl⟩
set_option maxRecDepth 100000 in
set_option maxHeartbeats 1000000 in

theorem ncopy_any {B b : Nat} {w : World} {v : Value} {L : List MsgV} {s t : Int} (h : NetAt B w b v L s t) (hl : L.length ≤ 1000000) :
    Calls Tryz.prog 24 #[.pointer (some ⟨b, 0, none⟩)] w fun e w' => ∃ c vc, e = .returned (.pointer (some ⟨c, 0, none⟩)) ∧ NetAt w.heap.size w' c vc L s t ∧ Below w.heap.size w w' := by
  have c0 := h.cell0
  have hcl := nclone_any (L := L.map ptext) (w := w) (by rw [List.length_map]; exact h.2.2.1) (by rw [List.length_map]; exact hl)
  rw [List.length_map] at hcl
  obtain ⟨A, cap, rfl⟩ := h.form
  go_enter Tryz.func24, Tryz.ntmps24
  go_wp2_with fail
  refine hcl.mono ?_
  rintro en w1 ⟨v', rfl, hown, b1⟩
  obtain ⟨A', cap', rfl⟩ := own_formN hown
  have h1 := h.below b1
  clear h c0 hcl
  go_upto_region 4 with (fail)
  change Code.wp _ _ _ _ (w1.alloc (.cells #[.slice A' L.length cap', .int .i64 0, .int .i64 0] 76))
  have hC : NetAt w.heap.size (w1.alloc (.cells #[.slice A' L.length cap', .int .i64 0, .int .i64 0] 76)) w1.heap.size (.slice A' L.length cap') L 0 0 := ⟨b1.size, heap_alloc_new _ _, hown.alloc _, h1.2.2.2⟩
  have hN := h1.below ((Below.refl w1.heap.size w1).alloc (Nat.le_refl _) (.cells #[.slice A' L.length cap', .int .i64 0, .int .i64 0] 76))
  have hb := b1.alloc b1.size (.cells #[.slice A' L.length cap', .int .i64 0, .int .i64 0] 76)
  have hcb : w1.heap.size ≠ b := by have := h1.lt; omega
  have hcw : w.heap.size ≤ w1.heap.size := b1.size
  have hcv : (Value.slice A L.length cap).ownBlock = none ∨ (Value.slice A L.length cap).ownBlock ≠ some w1.heap.size := .inr fun e => by have := (h1.row _ e).2; omega
  clear h1 hown b1
  generalize w1.alloc (.cells #[.slice A' L.length cap', .int .i64 0, .int .i64 0] 76) = W at *
  generalize w1.heap.size = c at *
  have n1 := hN.cell1
  have n2 := hN.cell2
  have c1 := hC.cell1
  have hf := hC.free 1
  go_region_held3 (fun w' => True)
    (first | trivial | go_keep)
    (first
      | (go_at_call 39; refine (aload_any (a := ⟨b, 1, none⟩) (by exact n1)).mono ?_; rintro en wz ⟨rfl, rfl⟩)
      | (go_at_call 38; refine (astore_any (by exact c1) (by exact hf)).mono ?_; rintro en wz ⟨rfl, rfl⟩))
  have hC2 : NetAt w.heap.size (W.drew.setCell ⟨c, 1, none⟩ (.int .i64 s)) c (.slice A' L.length cap') L s 0 := NetAt.set1 (w := W.drew) hC s
  have G := grown_setCell W.drew c 1 (.int .i64 s)
  have hN2 : NetAt B (W.drew.setCell ⟨c, 1, none⟩ (.int .i64 s)) b (.slice A L.length cap) L s t := NetAt.grown (w := W.drew) hN G (by simpa using hcb.symm) hcv
  have hb2 : Below w.heap.size w (W.drew.setCell ⟨c, 1, none⟩ (.int .i64 s)) := grown_below (below_drewN hb 1) G hcw
  clear hC hN hb G n1 n2 c1 hf
  go_upto_region 5 with (fail)
  change Code.wp _ _ _ _ (W.drew.setCell ⟨c, 1, none⟩ (.int .i64 s))
  generalize W.drew.setCell ⟨c, 1, none⟩ (.int .i64 s) = W2 at *
  have n2 := hN2.cell2
  have c2 := hC2.cell2
  have hf := hC2.free 2
  go_region_held3 (fun w' => True)
    (first | trivial | go_keep)
    (first
      | (go_at_call 39; refine (aload_any (a := ⟨b, 2, none⟩) (by exact n2)).mono ?_; rintro en wz ⟨rfl, rfl⟩)
      | (go_at_call 38; refine (astore_any (by exact c2) (by exact hf)).mono ?_; rintro en wz ⟨rfl, rfl⟩))
  have hC3 := Lib.hid (show NetAt w.heap.size (W2.drew.setCell ⟨c, 2, none⟩ (.int .i64 t)) c (.slice A' L.length cap') L s t from NetAt.set2 (w := W2.drew) hC2 t)
  have hb3 := Lib.hid (show Below w.heap.size w (W2.drew.setCell ⟨c, 2, none⟩ (.int .i64 t)) from grown_below (below_drewN hb2 1) (grown_setCell W2.drew c 2 (.int .i64 t)) hcw)
  clear hC2 hN2 hb2 n2 c2 hf
  go_wp2_with fail
  go_ret
  exact ⟨_, _, rfl, hC3.out, hb3.out⟩
/-- A message's value stays as it was where a network changes. -/
theorem From.nkept {M : MsgV} {n b : Nat} {w w' : World} {u : Value} {r : Option Nat} (h : M.From n w u) (hk : NKept w w' b r) (hb : b < n) (hr : ∀ j, r = some j → j < n) : M.From n w' u := by
  obtain ⟨v1, v2, rfl, h1, h2⟩ := h
  cases r with
  | none =>
    have hR : RKeep w w' b b := ⟨hk.os, hk.tape, hk.output, hk.size, fun k hlt h3 _ => hk.block k hlt h3 (by simp)⟩
    exact ⟨v1, v2, rfl, h1.rkeep hR hb hb, h2.rkeep hR hb hb⟩
  | some j =>
    have hR : RKeep w w' b j := ⟨hk.os, hk.tape, hk.output, hk.size, fun k hlt h3 h4 => hk.block k hlt h3 (by simpa using h4)⟩
    exact ⟨v1, v2, rfl, h1.rkeep hR hb (hr j rfl), h2.rkeep hR hb (hr j rfl)⟩
end Go.Proofs.YtnaabaahfjklhaaGreat
namespace Go.Proofs.YtnaabaahfjklhaaGreat
open Go.RowKit Go.ChangeShapes Go.WideShapes Go.Joins Go.Deep Fld
set_option linter.unusedVariables false

def whereM (n : Int) : MsgV := { msgZero with kind := 15, dst := 200, fn := n }
theorem whereM_goes {n : Int} (h : 0 ≤ n ∧ n ≤ 1000000) : Goes (whereM n) := by
  have hn : W64 n := W64.mk (by omega) (by omega)
  refine ⟨MOk.mk' (W64.mk (x := 15) (by decide) (by decide)) (W64.mk (x := 200) (by decide) (by decide)) hn w64_zero w64_zero w64_zero w64_zero w64_zero w64_zero w64_zero w64_zero w64_zero w64_zero w64_zero w64_zero opZero_ok (by intro f hf; cases hf), ?_, ?_⟩
  · refine mayW_iff.2 ⟨show (1 : Int) ≤ 15 by decide, show (15 : Int) ≤ 15 by decide, ?_, Nat.zero_le _, fun h => ?_, fun h => ?_⟩
    · simp [onlyM, fieldsOf, setF, whereM, msgZero]
    · simp [whereM] at h
    · simp [whereM] at h
  · have h1 : textOf (whereM n) = kindB 15 :: (encI [200] ++ (encI [n, 0] ++ [])) := by simp [textOf, whereM, msgZero, fieldsOf, encFld]
    have h2 := encI_len [200]
    have h3 := encI_len [n, 0]
    unfold ptext
    rw [frame_len, h1, List.length_cons, List.length_append, List.length_append]
    simp only [List.length_cons, List.length_nil] at h2 h3 ⊢
    omega
theorem zero_print : printM msgZero = ([], 1) := by rw [printM, if_neg (by rw [mayW_zero]; simp)]

set_option maxRecDepth 100000 in
set_option maxHeartbeats 1000000 in

theorem where_any (n : Int) (w : World) : Calls Tryz.prog 17 #[.int .i64 n] w fun en w' => ∃ u, en = .returned u ∧ (whereM n).At w' u ∧ Below w.heap.size w w' := by
  have hlen : (msgCells (whereM n) (.slice none 0 0) (.slice none 0 0)).length = 28 := rfl
  have hone : (msgCells (whereM n) (.slice none 0 0) (.slice none 0 0)).toArray.all (·.oneCell') = true := by simp [msgCells, whereM, msgZero, opCells, opZero, icells, Value.oneCell']
  go_enter Tryz.func17, Tryz.ntmps17
  go_upto_region 1 with (fail)
  have hD : BlkAt (w.alloc (.cells #[.int .i64 0, .int .i64 0, .int .i64 0, .int .i64 0, .int .i64 0, .int .i64 0, .int .i64 0, .int .i64 0, .int .i64 0, .int .i64 0, .bool false, .int .i64 0, .int .i64 0, .int .i64 0, .int .i64 0, .int .i64 0, .int .i64 0, .int .i64 0, .int .i64 0, .int .i64 0, .string ⟨#[]⟩, .int .i64 0, .int .i64 0, .int .i64 0, .int .i64 0, .slice none 0 0, .slice none 0 0, .int .i64 0] 40)) w.heap.size 40 [.int .i64 0, .int .i64 0, .int .i64 0, .int .i64 0, .int .i64 0, .int .i64 0, .int .i64 0, .int .i64 0, .int .i64 0, .int .i64 0, .bool false, .int .i64 0, .int .i64 0, .int .i64 0, .int .i64 0, .int .i64 0, .int .i64 0, .int .i64 0, .int .i64 0, .int .i64 0, .string ⟨#[]⟩, .int .i64 0, .int .i64 0, .int .i64 0, .int .i64 0, .slice none 0 0, .slice none 0 0, .int .i64 0] := BlkAt.new w 40 [.int .i64 0, .int .i64 0, .int .i64 0, .int .i64 0, .int .i64 0, .int .i64 0, .int .i64 0, .int .i64 0, .int .i64 0, .int .i64 0, .bool false, .int .i64 0, .int .i64 0, .int .i64 0, .int .i64 0, .int .i64 0, .int .i64 0, .int .i64 0, .int .i64 0, .int .i64 0, .string ⟨#[]⟩, .int .i64 0, .int .i64 0, .int .i64 0, .int .i64 0, .slice none 0 0, .slice none 0 0, .int .i64 0]
  have hb : Below w.heap.size w (w.alloc (.cells #[.int .i64 0, .int .i64 0, .int .i64 0, .int .i64 0, .int .i64 0, .int .i64 0, .int .i64 0, .int .i64 0, .int .i64 0, .int .i64 0, .bool false, .int .i64 0, .int .i64 0, .int .i64 0, .int .i64 0, .int .i64 0, .int .i64 0, .int .i64 0, .int .i64 0, .int .i64 0, .string ⟨#[]⟩, .int .i64 0, .int .i64 0, .int .i64 0, .int .i64 0, .slice none 0 0, .slice none 0 0, .int .i64 0] 40)) := (Below.refl w.heap.size w).alloc (Nat.le_refl _) _
  have hWs : w.heap.size + 1 ≤ (w.alloc (.cells #[.int .i64 0, .int .i64 0, .int .i64 0, .int .i64 0, .int .i64 0, .int .i64 0, .int .i64 0, .int .i64 0, .int .i64 0, .int .i64 0, .bool false, .int .i64 0, .int .i64 0, .int .i64 0, .int .i64 0, .int .i64 0, .int .i64 0, .int .i64 0, .int .i64 0, .int .i64 0, .string ⟨#[]⟩, .int .i64 0, .int .i64 0, .int .i64 0, .int .i64 0, .slice none 0 0, .slice none 0 0, .int .i64 0] 40)).heap.size := by simp
  change Code.wp _ _ _ _ (w.alloc (.cells #[.int .i64 0, .int .i64 0, .int .i64 0, .int .i64 0, .int .i64 0, .int .i64 0, .int .i64 0, .int .i64 0, .int .i64 0, .int .i64 0, .bool false, .int .i64 0, .int .i64 0, .int .i64 0, .int .i64 0, .int .i64 0, .int .i64 0, .int .i64 0, .int .i64 0, .int .i64 0, .string ⟨#[]⟩, .int .i64 0, .int .i64 0, .int .i64 0, .int .i64 0, .slice none 0 0, .slice none 0 0, .int .i64 0] 40))
  generalize w.alloc (.cells #[.int .i64 0, .int .i64 0, .int .i64 0, .int .i64 0, .int .i64 0, .int .i64 0, .int .i64 0, .int .i64 0, .int .i64 0, .int .i64 0, .bool false, .int .i64 0, .int .i64 0, .int .i64 0, .int .i64 0, .int .i64 0, .int .i64 0, .int .i64 0, .int .i64 0, .int .i64 0, .string ⟨#[]⟩, .int .i64 0, .int .i64 0, .int .i64 0, .int .i64 0, .slice none 0 0, .slice none 0 0, .int .i64 0] 40) = W at *
  obtain ⟨D, hDD⟩ : ∃ D, D = w.heap.size := ⟨_, rfl⟩
  have hDw : w.heap.size ≤ D := Nat.le_of_eq hDD.symm
  rw [← hDD] at hD ⊢
  clear hDD hWs
  have hl2 : (msgCells (whereM n) (.slice none 0 0) (.slice none 0 0)).length = ([.int .i64 0, .int .i64 0, .int .i64 0, .int .i64 0, .int .i64 0, .int .i64 0, .int .i64 0, .int .i64 0, .int .i64 0, .int .i64 0, .bool false, .int .i64 0, .int .i64 0, .int .i64 0, .int .i64 0, .int .i64 0, .int .i64 0, .int .i64 0, .int .i64 0, .int .i64 0, .string ⟨#[]⟩, .int .i64 0, .int .i64 0, .int .i64 0, .int .i64 0, .slice none 0 0, .slice none 0 0, .int .i64 0] : List Value).length := by rw [hlen]; rfl
  have HM2 := Lib.hid (hD.stored (vs := msgCells (whereM n) (.slice none 0 0) (.slice none 0 0)) hl2)
  have HT2 := Lib.hid (blk_there2 hD hl2)
  have G := grown_setCells D (msgCells (whereM n) (.slice none 0 0) (.slice none 0 0)) 0 W
  have HB2 := Lib.hid (grown_below hb G hDw)
  clear hD hb G hl2
  go_wp2_with (refine wpList_store_mid rfl 40 (.tmp 2) (.tmp 5) rfl D 0 (msgCells (whereM n) (.slice none 0 0) (.slice none 0 0)).toArray rfl rfl (by exact HT2.out) (by rw [List.size_toArray, hlen]; exact msg_info) hone ?_; rw [List.toList_toArray])
  exact bodyPost_ret (v := .agg (msgCells (whereM n) (.slice none 0 0) (.slice none 0 0)).toArray) (results_cell_row rfl _ _ D 40 (msgCells (whereM n) (.slice none 0 0) (.slice none 0 0)).toArray (0, 0) _ rfl HM2.out Tryz.underlying40 rfl (by rw [List.size_toArray, hlen]; exact msg_info)) rfl ⟨_, rfl, At.lit _ rfl rfl _, HB2.out⟩

set_option maxRecDepth 100000 in
set_option maxHeartbeats 4000000 in

theorem awake_net (w : World) : Calls Tryz.prog 9 #[] w fun e w' => e = .returned (.bool true) ∧ Below w.heap.size w w' := by
  have g0 := whereM_goes (n := 100) (by decide)
  have g1 := whereM_goes (n := 101) (by decide)
  go_enter Tryz.func9, Tryz.ntmps9
  go_wp2_with fail
  refine (nnew_any _).mono ?_
  rintro en w1 ⟨b, rfl, hN, hb⟩
  have hbw : w.heap.size ≤ b := hN.1
  have hv : ∀ j, (Value.slice none 0 0).ownBlock = some j → w.heap.size ≤ j := by simp [Value.ownBlock]
  go_wp2_with fail
  refine (where_any 100 _).mono ?_
  rintro en w2 ⟨u, rfl, hA, b2⟩
  have hNq := hN.below b2
  clear hN
  have hN := hNq
  clear hNq
  have hbq := below_step hb b2
  clear hb
  have hb := hbq
  clear hbq b2
  go_wp2_with fail
  refine (nsend_any (by exact hN) (by decide) (by exact hA) g0.ok (by decide) (by decide) (sendN_some g0 (by decide))).mono ?_
  rintro en wz ⟨rfl, v2, hN2, hk2, hr2⟩
  have hv2 : ∀ j, v2.ownBlock = some j → w.heap.size ≤ j := fun j hj => by
    rcases hr2 j hj with h1 | h1
    · exact hv j h1
    · have := hb.size; omega
  have hbq := hk2.below hb hbw hv
  clear hb hN hv hk2 hr2
  have hb := hbq
  have hN := hN2
  have hv := hv2
  clear hbq hN2 hv2
  clear hA
  rw [sent_yes, List.nil_append] at hN
  go_wp2_with fail
  refine (where_any 101 _).mono ?_
  rintro en w2 ⟨u, rfl, hA, b2⟩
  have hNq := hN.below b2
  clear hN
  have hN := hNq
  clear hNq
  have hbq := below_step hb b2
  clear hb
  have hb := hbq
  clear hbq b2
  go_wp2_with fail
  refine (nsend_any (by exact hN) (by decide) (by exact hA) g1.ok (by decide) (by decide) (sendN_some g1 (by decide))).mono ?_
  rintro en wz ⟨rfl, v2, hN2, hk2, hr2⟩
  have hv2 : ∀ j, v2.ownBlock = some j → w.heap.size ≤ j := fun j hj => by
    rcases hr2 j hj with h1 | h1
    · exact hv j h1
    · have := hb.size; omega
  have hbq := hk2.below hb hbw hv
  clear hb hN hv hk2 hr2
  have hb := hbq
  have hN := hN2
  have hv := hv2
  clear hbq hN2 hv2
  clear hA
  rw [sent_yes, List.singleton_append] at hN
  go_wp2_with fail
  refine (nsend_any (x := 1) (by exact hN) (by decide) (by exact At.lit msgZero rfl rfl _) msgZero_ok (by decide) (by decide) (by rw [sendN, zero_print]; rfl)).mono ?_
  rintro en wz ⟨rfl, v2, hN2, hk2, hr2⟩
  have hv2 : ∀ j, v2.ownBlock = some j → w.heap.size ≤ j := fun j hj => by
    rcases hr2 j hj with h1 | h1
    · exact hv j h1
    · have := hb.size; omega
  have hbq := hk2.below hb hbw hv
  clear hb hN hv hk2 hr2
  have hb := hbq
  have hN := hN2
  have hv := hv2
  clear hbq hN2 hv2
  rw [sent_not (by decide)] at hN
  have hp5 : ([whereM 100, whereM 101] : List MsgV)[placeN 5 2]? = some (whereM 101) := rfl
  have hp0 : ([whereM 100] : List MsgV)[placeN 0 1]? = some (whereM 100) := rfl
  go_wp2_with fail
  refine (ntake_any (by exact hN) (by simp) (by decide) (by decide) (W64.mk (by decide) (by decide)) hp5).mono ?_
  rintro en w4 ⟨u5, v4, rfl, hF5, hN4, hk4, hq4⟩
  obtain ⟨es5, rfl, hl5, ho5, hF5⟩ := From.parts hF5 rfl
  have e5 : takeN_ [whereM 100, whereM 101] 5 = [whereM 100] := rfl
  rw [e5] at hN4
  have hb4 := hk4.below hb hbw hv
  have hbs := hN.lt
  have hvs : ∀ j, v2.ownBlock = some j → j < wz.heap.size := fun j hj => (hN.row j hj).2
  have hs4 := hk4.size
  generalize hH5 : wz.heap.size = H5 at hF5 hbs hvs hs4
  clear hN hk4 hH5 hb
  have hX := BlkAt.new w4 40 [.int .i64 0, .int .i64 0, .int .i64 0, .int .i64 0, .int .i64 0, .int .i64 0, .int .i64 0, .int .i64 0, .int .i64 0, .int .i64 0, .bool false, .int .i64 0, .int .i64 0, .int .i64 0, .int .i64 0, .int .i64 0, .int .i64 0, .int .i64 0, .int .i64 0, .int .i64 0, .string ⟨#[]⟩, .int .i64 0, .int .i64 0, .int .i64 0, .int .i64 0, .slice none 0 0, .slice none 0 0, .int .i64 0]
  have HL1 := Lib.hid (show es5.length = ([.int .i64 0, .int .i64 0, .int .i64 0, .int .i64 0, .int .i64 0, .int .i64 0, .int .i64 0, .int .i64 0, .int .i64 0, .int .i64 0, .bool false, .int .i64 0, .int .i64 0, .int .i64 0, .int .i64 0, .int .i64 0, .int .i64 0, .int .i64 0, .int .i64 0, .int .i64 0, .string ⟨#[]⟩, .int .i64 0, .int .i64 0, .int .i64 0, .int .i64 0, .slice none 0 0, .slice none 0 0, .int .i64 0] : List Value).length by rw [hl5]; rfl)
  have b4 := (Below.refl w4.heap.size w4).alloc (Nat.le_refl _) (.cells #[.int .i64 0, .int .i64 0, .int .i64 0, .int .i64 0, .int .i64 0, .int .i64 0, .int .i64 0, .int .i64 0, .int .i64 0, .int .i64 0, .bool false, .int .i64 0, .int .i64 0, .int .i64 0, .int .i64 0, .int .i64 0, .int .i64 0, .int .i64 0, .int .i64 0, .int .i64 0, .string ⟨#[]⟩, .int .i64 0, .int .i64 0, .int .i64 0, .int .i64 0, .slice none 0 0, .slice none 0 0, .int .i64 0] 40)
  have G4 := grown_setCells w4.heap.size es5 0 (w4.alloc (.cells #[.int .i64 0, .int .i64 0, .int .i64 0, .int .i64 0, .int .i64 0, .int .i64 0, .int .i64 0, .int .i64 0, .int .i64 0, .int .i64 0, .bool false, .int .i64 0, .int .i64 0, .int .i64 0, .int .i64 0, .int .i64 0, .int .i64 0, .int .i64 0, .int .i64 0, .int .i64 0, .string ⟨#[]⟩, .int .i64 0, .int .i64 0, .int .i64 0, .int .i64 0, .slice none 0 0, .slice none 0 0, .int .i64 0] 40))
  have b5 := b4.grown G4 b4.size (by intro j hj; cases hj; exact Nat.le_refl _)
  have hX5n := hX.stored (vs := es5) HL1.out
  have HT := Lib.hid (blk_there2 hX HL1.out)
  have hN4n := hN4.below b5
  clear hN4
  have hN4 := hN4n
  clear hN4n
  have hF5n := hF5.below b5
  clear hF5
  have hF5 := hF5n
  clear hF5n
  have hb4n := below_step hb4 b5
  clear hb4
  have hb4 := hb4n
  clear hb4n
  clear hX b4 G4 b5 HL1
  go_upto_region 6 with (first | (refine wpList_store_mid rfl 40 (.tmp 5) (.tmp 28) rfl w4.heap.size 0 es5.toArray rfl rfl (by exact HT.out) (by rw [List.size_toArray, hl5]; exact msg_info) ho5 ?_; rw [List.toList_toArray]))
  change Code.wp _ _ _ _ ((w4.alloc (.cells #[.int .i64 0, .int .i64 0, .int .i64 0, .int .i64 0, .int .i64 0, .int .i64 0, .int .i64 0, .int .i64 0, .int .i64 0, .int .i64 0, .bool false, .int .i64 0, .int .i64 0, .int .i64 0, .int .i64 0, .int .i64 0, .int .i64 0, .int .i64 0, .int .i64 0, .int .i64 0, .string ⟨#[]⟩, .int .i64 0, .int .i64 0, .int .i64 0, .int .i64 0, .slice none 0 0, .slice none 0 0, .int .i64 0] 40)).setCells w4.heap.size 0 es5)
  generalize (w4.alloc (.cells #[.int .i64 0, .int .i64 0, .int .i64 0, .int .i64 0, .int .i64 0, .int .i64 0, .int .i64 0, .int .i64 0, .int .i64 0, .int .i64 0, .bool false, .int .i64 0, .int .i64 0, .int .i64 0, .int .i64 0, .int .i64 0, .int .i64 0, .int .i64 0, .int .i64 0, .int .i64 0, .string ⟨#[]⟩, .int .i64 0, .int .i64 0, .int .i64 0, .int .i64 0, .slice none 0 0, .slice none 0 0, .int .i64 0] 40)).setCells w4.heap.size 0 es5 = W4 at *
  have hX5 := hX5n
  clear hX5n HT
  obtain ⟨x5, hLL⟩ : ∃ q, q = w4.heap.size := ⟨_, rfl⟩
  rw [← hLL] at hX5 ⊢
  have HEx5 := Lib.hid hLL
  clear hLL
  have hx5b : x5 ≠ b := by rw [HEx5.out]; omega
  have hx5v : some x5 ≠ v4.ownBlock := fun e => by
    rw [hq4] at e
    have := hvs _ e.symm
    rw [HEx5.out] at this
    omega
  go_wp2_with fail
  refine (ntake_any (by exact hN4) (by simp) (by decide) (by decide) (W64.mk (by decide) (by decide)) hp0).mono ?_
  rintro en w5 ⟨u7, v5, rfl, hF7, hN5, hk5, hq5⟩
  obtain ⟨es7, rfl, hl7, ho7, hF7⟩ := From.parts hF7 rfl
  have e7 : takeN_ [whereM 100] 0 = [] := rfl
  rw [e7] at hN5
  have hX5 := blk_nkept hX5 hk5 hx5b hx5v
  have hF5 := From.nkept hF5 hk5 hbs (fun j hj => hvs j (by rw [← hq4]; exact hj))
  have hb5 := hk5.below hb4 hbw (fun j hj => hv j (by rw [← hq4]; exact hj))
  clear hN4 hk5 hb4
  have hX := BlkAt.new w5 40 [.int .i64 0, .int .i64 0, .int .i64 0, .int .i64 0, .int .i64 0, .int .i64 0, .int .i64 0, .int .i64 0, .int .i64 0, .int .i64 0, .bool false, .int .i64 0, .int .i64 0, .int .i64 0, .int .i64 0, .int .i64 0, .int .i64 0, .int .i64 0, .int .i64 0, .int .i64 0, .string ⟨#[]⟩, .int .i64 0, .int .i64 0, .int .i64 0, .int .i64 0, .slice none 0 0, .slice none 0 0, .int .i64 0]
  have HL1 := Lib.hid (show es7.length = ([.int .i64 0, .int .i64 0, .int .i64 0, .int .i64 0, .int .i64 0, .int .i64 0, .int .i64 0, .int .i64 0, .int .i64 0, .int .i64 0, .bool false, .int .i64 0, .int .i64 0, .int .i64 0, .int .i64 0, .int .i64 0, .int .i64 0, .int .i64 0, .int .i64 0, .int .i64 0, .string ⟨#[]⟩, .int .i64 0, .int .i64 0, .int .i64 0, .int .i64 0, .slice none 0 0, .slice none 0 0, .int .i64 0] : List Value).length by rw [hl7]; rfl)
  have b4 := (Below.refl w5.heap.size w5).alloc (Nat.le_refl _) (.cells #[.int .i64 0, .int .i64 0, .int .i64 0, .int .i64 0, .int .i64 0, .int .i64 0, .int .i64 0, .int .i64 0, .int .i64 0, .int .i64 0, .bool false, .int .i64 0, .int .i64 0, .int .i64 0, .int .i64 0, .int .i64 0, .int .i64 0, .int .i64 0, .int .i64 0, .int .i64 0, .string ⟨#[]⟩, .int .i64 0, .int .i64 0, .int .i64 0, .int .i64 0, .slice none 0 0, .slice none 0 0, .int .i64 0] 40)
  have G4 := grown_setCells w5.heap.size es7 0 (w5.alloc (.cells #[.int .i64 0, .int .i64 0, .int .i64 0, .int .i64 0, .int .i64 0, .int .i64 0, .int .i64 0, .int .i64 0, .int .i64 0, .int .i64 0, .bool false, .int .i64 0, .int .i64 0, .int .i64 0, .int .i64 0, .int .i64 0, .int .i64 0, .int .i64 0, .int .i64 0, .int .i64 0, .string ⟨#[]⟩, .int .i64 0, .int .i64 0, .int .i64 0, .int .i64 0, .slice none 0 0, .slice none 0 0, .int .i64 0] 40))
  have b5 := b4.grown G4 b4.size (by intro j hj; cases hj; exact Nat.le_refl _)
  have hX7n := hX.stored (vs := es7) HL1.out
  have HT := Lib.hid (blk_there2 hX HL1.out)
  have hN5n := hN5.below b5
  clear hN5
  have hN5 := hN5n
  clear hN5n
  have hF5n := hF5.below b5
  clear hF5
  have hF5 := hF5n
  clear hF5n
  have hX5n := hX5.below b5
  clear hX5
  have hX5 := hX5n
  clear hX5n
  have hF7n := hF7.below b5
  clear hF7
  have hF7 := hF7n
  clear hF7n
  have hb5n := below_step hb5 b5
  clear hb5
  have hb5 := hb5n
  clear hb5n
  clear hX b4 G4 b5 HL1
  go_upto_region 7 with (first | (refine wpList_store_mid rfl 40 (.tmp 7) (.tmp 33) rfl w5.heap.size 0 es7.toArray rfl rfl (by exact HT.out) (by rw [List.size_toArray, hl7]; exact msg_info) ho7 ?_; rw [List.toList_toArray]))
  change Code.wp _ _ _ _ ((w5.alloc (.cells #[.int .i64 0, .int .i64 0, .int .i64 0, .int .i64 0, .int .i64 0, .int .i64 0, .int .i64 0, .int .i64 0, .int .i64 0, .int .i64 0, .bool false, .int .i64 0, .int .i64 0, .int .i64 0, .int .i64 0, .int .i64 0, .int .i64 0, .int .i64 0, .int .i64 0, .int .i64 0, .string ⟨#[]⟩, .int .i64 0, .int .i64 0, .int .i64 0, .int .i64 0, .slice none 0 0, .slice none 0 0, .int .i64 0] 40)).setCells w5.heap.size 0 es7)
  generalize (w5.alloc (.cells #[.int .i64 0, .int .i64 0, .int .i64 0, .int .i64 0, .int .i64 0, .int .i64 0, .int .i64 0, .int .i64 0, .int .i64 0, .int .i64 0, .bool false, .int .i64 0, .int .i64 0, .int .i64 0, .int .i64 0, .int .i64 0, .int .i64 0, .int .i64 0, .int .i64 0, .int .i64 0, .string ⟨#[]⟩, .int .i64 0, .int .i64 0, .int .i64 0, .int .i64 0, .slice none 0 0, .slice none 0 0, .int .i64 0] 40)).setCells w5.heap.size 0 es7 = W5 at *
  have hX7 := hX7n
  clear hX7n HT
  obtain ⟨x7, hLL⟩ : ∃ q, q = w5.heap.size := ⟨_, rfl⟩
  rw [← hLL] at hX7 ⊢
  have HEx7 := Lib.hid hLL
  clear hLL
  go_wp2_with fail
  refine (ntake_none (by exact hN5) 0).mono ?_
  rintro en w6 ⟨u9, rfl, hF9, b6⟩
  obtain ⟨es9, rfl, hl9, ho9, hF9⟩ := From.parts hF9 rfl
  have hb := hb5
  clear hb5 hF9
  have hN5q := hN5.below b6
  clear hN5
  have hN5 := hN5q
  clear hN5q
  have hF5q := hF5.below b6
  clear hF5
  have hF5 := hF5q
  clear hF5q
  have hX5q := hX5.below b6
  clear hX5
  have hX5 := hX5q
  clear hX5q
  have hF7q := hF7.below b6
  clear hF7
  have hF7 := hF7q
  clear hF7q
  have hX7q := hX7.below b6
  clear hX7
  have hX7 := hX7q
  clear hX7q
  have hbq := below_step hb b6
  clear hb
  have hb := hbq
  clear hbq b6
  have hX := BlkAt.new w6 40 [.int .i64 0, .int .i64 0, .int .i64 0, .int .i64 0, .int .i64 0, .int .i64 0, .int .i64 0, .int .i64 0, .int .i64 0, .int .i64 0, .bool false, .int .i64 0, .int .i64 0, .int .i64 0, .int .i64 0, .int .i64 0, .int .i64 0, .int .i64 0, .int .i64 0, .int .i64 0, .string ⟨#[]⟩, .int .i64 0, .int .i64 0, .int .i64 0, .int .i64 0, .slice none 0 0, .slice none 0 0, .int .i64 0]
  have HL1 := Lib.hid (show es9.length = ([.int .i64 0, .int .i64 0, .int .i64 0, .int .i64 0, .int .i64 0, .int .i64 0, .int .i64 0, .int .i64 0, .int .i64 0, .int .i64 0, .bool false, .int .i64 0, .int .i64 0, .int .i64 0, .int .i64 0, .int .i64 0, .int .i64 0, .int .i64 0, .int .i64 0, .int .i64 0, .string ⟨#[]⟩, .int .i64 0, .int .i64 0, .int .i64 0, .int .i64 0, .slice none 0 0, .slice none 0 0, .int .i64 0] : List Value).length by rw [hl9]; rfl)
  have b4 := (Below.refl w6.heap.size w6).alloc (Nat.le_refl _) (.cells #[.int .i64 0, .int .i64 0, .int .i64 0, .int .i64 0, .int .i64 0, .int .i64 0, .int .i64 0, .int .i64 0, .int .i64 0, .int .i64 0, .bool false, .int .i64 0, .int .i64 0, .int .i64 0, .int .i64 0, .int .i64 0, .int .i64 0, .int .i64 0, .int .i64 0, .int .i64 0, .string ⟨#[]⟩, .int .i64 0, .int .i64 0, .int .i64 0, .int .i64 0, .slice none 0 0, .slice none 0 0, .int .i64 0] 40)
  have G4 := grown_setCells w6.heap.size es9 0 (w6.alloc (.cells #[.int .i64 0, .int .i64 0, .int .i64 0, .int .i64 0, .int .i64 0, .int .i64 0, .int .i64 0, .int .i64 0, .int .i64 0, .int .i64 0, .bool false, .int .i64 0, .int .i64 0, .int .i64 0, .int .i64 0, .int .i64 0, .int .i64 0, .int .i64 0, .int .i64 0, .int .i64 0, .string ⟨#[]⟩, .int .i64 0, .int .i64 0, .int .i64 0, .int .i64 0, .slice none 0 0, .slice none 0 0, .int .i64 0] 40))
  have b5 := b4.grown G4 b4.size (by intro j hj; cases hj; exact Nat.le_refl _)
  have hX9n := hX.stored (vs := es9) HL1.out
  have HT := Lib.hid (blk_there2 hX HL1.out)
  have hN5n := hN5.below b5
  clear hN5
  have hN5 := hN5n
  clear hN5n
  have hF5n := hF5.below b5
  clear hF5
  have hF5 := hF5n
  clear hF5n
  have hX5n := hX5.below b5
  clear hX5
  have hX5 := hX5n
  clear hX5n
  have hF7n := hF7.below b5
  clear hF7
  have hF7 := hF7n
  clear hF7n
  have hX7n := hX7.below b5
  clear hX7
  have hX7 := hX7n
  clear hX7n
  have hbn := below_step hb b5
  clear hb
  have hb := hbn
  clear hbn
  clear hX b4 G4 b5 HL1
  go_upto_region 8 with (first | (refine wpList_store_mid rfl 40 (.tmp 9) (.tmp 38) rfl w6.heap.size 0 es9.toArray rfl rfl (by exact HT.out) (by rw [List.size_toArray, hl9]; exact msg_info) ho9 ?_; rw [List.toList_toArray]))
  change Code.wp _ _ _ _ ((w6.alloc (.cells #[.int .i64 0, .int .i64 0, .int .i64 0, .int .i64 0, .int .i64 0, .int .i64 0, .int .i64 0, .int .i64 0, .int .i64 0, .int .i64 0, .bool false, .int .i64 0, .int .i64 0, .int .i64 0, .int .i64 0, .int .i64 0, .int .i64 0, .int .i64 0, .int .i64 0, .int .i64 0, .string ⟨#[]⟩, .int .i64 0, .int .i64 0, .int .i64 0, .int .i64 0, .slice none 0 0, .slice none 0 0, .int .i64 0] 40)).setCells w6.heap.size 0 es9)
  generalize (w6.alloc (.cells #[.int .i64 0, .int .i64 0, .int .i64 0, .int .i64 0, .int .i64 0, .int .i64 0, .int .i64 0, .int .i64 0, .int .i64 0, .int .i64 0, .bool false, .int .i64 0, .int .i64 0, .int .i64 0, .int .i64 0, .int .i64 0, .int .i64 0, .int .i64 0, .int .i64 0, .int .i64 0, .string ⟨#[]⟩, .int .i64 0, .int .i64 0, .int .i64 0, .int .i64 0, .slice none 0 0, .slice none 0 0, .int .i64 0] 40)).setCells w6.heap.size 0 es9 = W6 at *
  have hX9 := hX9n
  clear hX9n HT
  obtain ⟨x9, hLL⟩ : ∃ q, q = w6.heap.size := ⟨_, rfl⟩
  rw [← hLL] at hX9 ⊢
  have HEx9 := Lib.hid hLL
  clear hLL
  clear hX9
  go_wp2_with fail
  refine (ncounts_any (by exact hN5)).mono ?_
  rintro en w7 ⟨rfl, n, rfl⟩
  have bd : Below W6.heap.size W6 (W6.drewN n) := below_drewN (Below.refl _ _) n
  have hN5q := hN5.below bd
  clear hN5
  have hN5 := hN5q
  clear hN5q
  have hF5q := hF5.below bd
  clear hF5
  have hF5 := hF5q
  clear hF5q
  have hX5q := hX5.below bd
  clear hX5
  have hX5 := hX5q
  clear hX5q
  have hF7q := hF7.below bd
  clear hF7
  have hF7 := hF7q
  clear hF7q
  have hX7q := hX7.below bd
  clear hX7
  have hX7 := hX7q
  clear hX7q
  have hbq := below_step hb bd
  clear hb
  have hb := hbq
  clear hbq bd
  generalize W6.drewN n = W7 at *
  go_upto_region 9 with (fail)
  have bd : Below W7.heap.size W7 W7.drew := below_drewN (Below.refl _ _) 1
  have hN5q := hN5.below bd
  clear hN5
  have hN5 := hN5q
  clear hN5q
  have hF5q := hF5.below bd
  clear hF5
  have hF5 := hF5q
  clear hF5q
  have hX5q := hX5.below bd
  clear hX5
  have hX5 := hX5q
  clear hX5q
  have hF7q := hF7.below bd
  clear hF7
  have hF7 := hF7q
  clear hF7q
  have hX7q := hX7.below bd
  clear hX7
  have hX7 := hX7q
  clear hX7q
  have hbq := below_step hb bd
  clear hb
  have hb := hbq
  clear hbq bd
  refine wp_region_noPanic ?_
  refine wp_region_held_drew (S := (fun w' => BlkAt w' x5 40 es5 ∧ BlkAt w' x7 40 es7)) (by kernel_rfl) (by exact ⟨hX5, hX7⟩) (fun hHeld => ?_)
  refine wpAnyH_take (i := 0) (oi := ?oq_1_0) (v := ?va_1_0) ?op_1_0 (by kernel_rfl) (by kernel_rfl) (by kernel_rfl) (fun _ _ _ h => h) ?yi_1_0 hHeld ?re_1_0
  case op_1_0 => (simp only [List.getElem?_toArray, List.getElem?_cons_zero]; rfl)
  case yi_1_0 =>
    refine Or.inl ⟨by rfl, ?_⟩
    intro w hSw
    try dsimp only at hSw
    go_simp
    all_goals with_reducible rfl
  try simp only [Act.put, List.setIfInBounds_toArray, List.set_cons_zero, List.set_cons_succ]
  refine wpAnyH_take (i := 1) (oi := ?oq_1_1) (v := ?va_1_1) ?op_1_1 (by kernel_rfl) (by kernel_rfl) (by kernel_rfl) (fun _ _ _ h => h) ?yi_1_1 hHeld ?re_1_1
  case op_1_1 => (simp only [List.getElem?_toArray, List.getElem?_cons_succ, List.getElem?_cons_zero]; rfl)
  case yi_1_1 =>
    refine Or.inl ⟨by rfl, ?_⟩
    intro w hSw
    try dsimp only at hSw
    go_simp
    all_goals with_reducible rfl
  try simp only [Act.put, List.setIfInBounds_toArray, List.set_cons_zero, List.set_cons_succ]
  refine wpAnyH_take (i := 2) (oi := ?oq_1_2) (v := ?va_1_2) ?op_1_2 (by kernel_rfl) (by kernel_rfl) (by kernel_rfl) (fun _ _ _ h => h) ?yi_1_2 hHeld ?re_1_2
  case op_1_2 => (simp only [List.getElem?_toArray, List.getElem?_cons_succ, List.getElem?_cons_zero]; rfl)
  case yi_1_2 =>
    refine Or.inl ⟨by rfl, ?_⟩
    intro w hSw
    try dsimp only at hSw
    go_simp
    all_goals with_reducible rfl
  try simp only [Act.put, List.setIfInBounds_toArray, List.set_cons_zero, List.set_cons_succ]
  refine wpAnyH_take (i := 3) (oi := ?oq_1_3) (v := ?va_1_3) ?op_1_3 (by kernel_rfl) (by kernel_rfl) (by kernel_rfl) (fun _ _ _ h => h) ?yi_1_3 hHeld ?re_1_3
  case op_1_3 => (simp only [List.getElem?_toArray, List.getElem?_cons_succ, List.getElem?_cons_zero]; rfl)
  case yi_1_3 =>
    refine Or.inl ⟨by rfl, ?_⟩
    intro w hSw
    try dsimp only at hSw
    go_simp
    all_goals with_reducible rfl
  try simp only [Act.put, List.setIfInBounds_toArray, List.set_cons_zero, List.set_cons_succ]
  refine wpAnyH_take (i := 4) (oi := ?oq_1_4) (v := ?va_1_4) ?op_1_4 (by kernel_rfl) (by kernel_rfl) (by kernel_rfl) (fun _ _ _ h => h) ?yi_1_4 hHeld ?re_1_4
  case op_1_4 => (simp only [List.getElem?_toArray, List.getElem?_cons_succ, List.getElem?_cons_zero]; rfl)
  case yi_1_4 =>
    refine Or.inl ⟨by rfl, ?_⟩
    intro w hSw
    try dsimp only at hSw
    go_simp
    all_goals with_reducible rfl
  try simp only [Act.put, List.setIfInBounds_toArray, List.set_cons_zero, List.set_cons_succ]
  refine wpAnyH_take (i := 5) (oi := ?oq_1_5) (v := ?va_1_5) ?op_1_5 (by kernel_rfl) (by kernel_rfl) (by kernel_rfl) (fun _ _ _ h => h) ?yi_1_5 hHeld ?re_1_5
  case op_1_5 => (simp only [List.getElem?_toArray, List.getElem?_cons_succ, List.getElem?_cons_zero]; rfl)
  case yi_1_5 =>
    refine Or.inl ⟨by rfl, ?_⟩
    intro w hSw
    try dsimp only at hSw
    go_simp
    all_goals with_reducible rfl
  try simp only [Act.put, List.setIfInBounds_toArray, List.set_cons_zero, List.set_cons_succ]
  refine wpAnyH_take (i := 6) (oi := ?oq_1_6) (v := ?va_1_6) ?op_1_6 (by kernel_rfl) (by kernel_rfl) (by kernel_rfl) (fun _ _ _ h => h) ?yi_1_6 hHeld ?re_1_6
  case op_1_6 => (simp only [List.getElem?_toArray, List.getElem?_cons_succ, List.getElem?_cons_zero]; rfl)
  case yi_1_6 =>
    refine Or.inl ⟨by rfl, ?_⟩
    intro w hSw
    try dsimp only at hSw
    go_simp
    all_goals with_reducible rfl
  try simp only [Act.put, List.setIfInBounds_toArray, List.set_cons_zero, List.set_cons_succ]
  refine wpAnyH_take (i := 7) (oi := ?oq_1_7) (v := ?va_1_7) ?op_1_7 (by kernel_rfl) (by kernel_rfl) (by kernel_rfl) (fun _ _ _ h => h) ?yi_1_7 hHeld ?re_1_7
  case op_1_7 => (simp only [List.getElem?_toArray, List.getElem?_cons_succ, List.getElem?_cons_zero]; rfl)
  case yi_1_7 =>
    refine Or.inl ⟨by rfl, ?_⟩
    intro w hSw
    try dsimp only at hSw
    go_simp
    all_goals with_reducible rfl
  try simp only [Act.put, List.setIfInBounds_toArray, List.set_cons_zero, List.set_cons_succ]
  refine wpAnyH_take (i := 8) (oi := ?oq_1_8) (v := ?va_1_8) ?op_1_8 (by kernel_rfl) (by kernel_rfl) (by kernel_rfl) (fun _ _ _ h => h) ?yi_1_8 hHeld ?re_1_8
  case op_1_8 => (simp only [List.getElem?_toArray, List.getElem?_cons_succ, List.getElem?_cons_zero]; rfl)
  case yi_1_8 =>
    refine Or.inl ⟨by rfl, ?_⟩
    intro w hSw
    try dsimp only at hSw
    go_simp
    all_goals with_reducible rfl
  try simp only [Act.put, List.setIfInBounds_toArray, List.set_cons_zero, List.set_cons_succ]
  refine wpAnyH_take (i := 9) (oi := ?oq_1_9) (v := ?va_1_9) ?op_1_9 (by kernel_rfl) (by kernel_rfl) (by kernel_rfl) (fun _ _ _ h => h) ?yi_1_9 hHeld ?re_1_9
  case op_1_9 => (simp only [List.getElem?_toArray, List.getElem?_cons_succ, List.getElem?_cons_zero]; rfl)
  case yi_1_9 =>
    refine Or.inl ⟨by rfl, ?_⟩
    intro w hSw
    try dsimp only at hSw
    go_simp
    all_goals with_reducible rfl
  try simp only [Act.put, List.setIfInBounds_toArray, List.set_cons_zero, List.set_cons_succ]
  refine wpAnyH_take (i := 10) (oi := ?oq_1_10) (v := ?va_1_10) ?op_1_10 (by kernel_rfl) (by kernel_rfl) (by kernel_rfl) (fun _ _ _ h => h) ?yi_1_10 hHeld ?re_1_10
  case op_1_10 => (simp only [List.getElem?_toArray, List.getElem?_cons_succ, List.getElem?_cons_zero]; rfl)
  case yi_1_10 =>
    refine Or.inl ⟨by rfl, ?_⟩
    intro w hSw
    try dsimp only at hSw
    go_simp
    all_goals with_reducible rfl
  try simp only [Act.put, List.setIfInBounds_toArray, List.set_cons_zero, List.set_cons_succ]
  refine wpAnyH_take (i := 11) (oi := ?oq_1_11) (v := ?va_1_11) ?op_1_11 (by kernel_rfl) (by kernel_rfl) (by kernel_rfl) (fun _ _ _ h => h) ?yi_1_11 hHeld ?re_1_11
  case op_1_11 => (simp only [List.getElem?_toArray, List.getElem?_cons_succ, List.getElem?_cons_zero]; rfl)
  case yi_1_11 => exact (by
    refine yieldsIf_load_mid ?_ 40 (.tmp 5) ?_ x5 0 ?_ es5 _ ?_ Tryz.underlying40 ?_ (by rw [hl5]; exact msg_info)
    · rfl
    · rfl
    · rfl
    · intro w h
      have h : _ ∧ _ := h
      exact BlkAt.range h.1
    · rfl)
  try simp only [Act.put, List.setIfInBounds_toArray, List.set_cons_zero, List.set_cons_succ]
  refine wpAnyH_ready (rs := [12]) (by kernel_rfl) (by simp) (AllReadyH.cons (o := ?oq_1_12) ?op_1_12 (fun K hK => ?re_1_12) AllReadyH.nil)
  case op_1_12 => (simp only [List.getElem?_toArray, List.getElem?_cons_succ, List.getElem?_cons_zero]; rfl)
  go_simp
  go_at_call 17
  refine (where_any 101 _).mono ?_
  rintro en z1 ⟨u1, rfl, hU1, b9⟩
  have hN5q := hN5.below b9
  clear hN5
  have hN5 := hN5q
  clear hN5q
  have hF5q := hF5.below b9
  clear hF5
  have hF5 := hF5q
  clear hF5q
  have hX5q := hX5.below b9
  clear hX5
  have hX5 := hX5q
  clear hX5q
  have hF7q := hF7.below b9
  clear hF7
  have hF7 := hF7q
  clear hF7q
  have hX7q := hX7.below b9
  clear hX7
  have hX7 := hX7q
  clear hX7q
  have hbq := below_step hb b9
  clear hb
  have hb := hbq
  clear hbq b9
  refine hK.out _ _ (by exact ⟨hX5, hX7⟩) (fun hHeld => ?_)
  clear hK K
  try simp only [Act.put, List.setIfInBounds_toArray, List.set_cons_zero, List.set_cons_succ]
  refine wpAnyH_ready (rs := [13]) (by kernel_rfl) (by simp) (AllReadyH.cons (o := ?oq_1_13) ?op_1_13 (fun K hK => ?re_1_13) AllReadyH.nil)
  case op_1_13 => (simp only [List.getElem?_toArray, List.getElem?_cons_succ, List.getElem?_cons_zero]; rfl)
  go_simp
  go_at_call 14
  refine (qwsame_any (by exact hF5.at) (by exact hU1) rfl rfl).mono ?_
  rintro en z2 ⟨rfl, b9⟩
  rw [decide_eq_true (rfl : whereM 101 = whereM 101)]
  have hN5q := hN5.below b9
  clear hN5
  have hN5 := hN5q
  clear hN5q
  have hF5q := hF5.below b9
  clear hF5
  have hF5 := hF5q
  clear hF5q
  have hX5q := hX5.below b9
  clear hX5
  have hX5 := hX5q
  clear hX5q
  have hF7q := hF7.below b9
  clear hF7
  have hF7 := hF7q
  clear hF7q
  have hX7q := hX7.below b9
  clear hX7
  have hX7 := hX7q
  clear hX7q
  have hbq := below_step hb b9
  clear hb
  have hb := hbq
  clear hbq b9
  refine hK.out _ _ (by exact ⟨hX5, hX7⟩) (fun hHeld => ?_)
  clear hK K
  try simp only [Act.put, List.setIfInBounds_toArray, List.set_cons_zero, List.set_cons_succ]
  refine wpAnyH_take (i := 14) (oi := ?oq_1_14) (v := ?va_1_14) ?op_1_14 (by kernel_rfl) (by kernel_rfl) (by kernel_rfl) (fun _ _ _ h => h) ?yi_1_14 hHeld ?re_1_14
  case op_1_14 => (simp only [List.getElem?_toArray, List.getElem?_cons_succ, List.getElem?_cons_zero]; rfl)
  case yi_1_14 =>
    refine Or.inl ⟨by rfl, ?_⟩
    intro w hSw
    try dsimp only at hSw
    go_simp
    all_goals with_reducible rfl
  try simp only [Act.put, List.setIfInBounds_toArray, List.set_cons_zero, List.set_cons_succ]
  refine wpAnyH_take (i := 15) (oi := ?oq_1_15) (v := ?va_1_15) ?op_1_15 (by kernel_rfl) (by kernel_rfl) (by kernel_rfl) (fun _ _ _ h => h) ?yi_1_15 hHeld ?re_1_15
  case op_1_15 => (simp only [List.getElem?_toArray, List.getElem?_cons_succ, List.getElem?_cons_zero]; rfl)
  case yi_1_15 =>
    refine Or.inl ⟨by rfl, ?_⟩
    intro w hSw
    try dsimp only at hSw
    go_simp
    all_goals with_reducible rfl
  try simp only [Act.put, List.setIfInBounds_toArray, List.set_cons_zero, List.set_cons_succ]
  refine wpAnyH_take (i := 16) (oi := ?oq_1_16) (v := ?va_1_16) ?op_1_16 (by kernel_rfl) (by kernel_rfl) (by kernel_rfl) (fun _ _ _ h => h) ?yi_1_16 hHeld ?re_1_16
  case op_1_16 => (simp only [List.getElem?_toArray, List.getElem?_cons_succ, List.getElem?_cons_zero]; rfl)
  case yi_1_16 =>
    refine Or.inl ⟨by rfl, ?_⟩
    intro w hSw
    try dsimp only at hSw
    go_simp
    all_goals with_reducible rfl
  try simp only [Act.put, List.setIfInBounds_toArray, List.set_cons_zero, List.set_cons_succ]
  refine wpAnyH_take (i := 17) (oi := ?oq_1_17) (v := ?va_1_17) ?op_1_17 (by kernel_rfl) (by kernel_rfl) (by kernel_rfl) (fun _ _ _ h => h) ?yi_1_17 hHeld ?re_1_17
  case op_1_17 => (simp only [List.getElem?_toArray, List.getElem?_cons_succ, List.getElem?_cons_zero]; rfl)
  case yi_1_17 =>
    refine Or.inl ⟨by rfl, ?_⟩
    intro w hSw
    try dsimp only at hSw
    go_simp
    all_goals with_reducible rfl
  try simp only [Act.put, List.setIfInBounds_toArray, List.set_cons_zero, List.set_cons_succ]
  refine wpAnyH_take (i := 18) (oi := ?oq_1_18) (v := ?va_1_18) ?op_1_18 (by kernel_rfl) (by kernel_rfl) (by kernel_rfl) (fun _ _ _ h => h) ?yi_1_18 hHeld ?re_1_18
  case op_1_18 => (simp only [List.getElem?_toArray, List.getElem?_cons_succ, List.getElem?_cons_zero]; rfl)
  case yi_1_18 =>
    refine Or.inl ⟨by rfl, ?_⟩
    intro w hSw
    try dsimp only at hSw
    go_simp
    all_goals with_reducible rfl
  try simp only [Act.put, List.setIfInBounds_toArray, List.set_cons_zero, List.set_cons_succ]
  refine wpAnyH_take (i := 19) (oi := ?oq_1_19) (v := ?va_1_19) ?op_1_19 (by kernel_rfl) (by kernel_rfl) (by kernel_rfl) (fun _ _ _ h => h) ?yi_1_19 hHeld ?re_1_19
  case op_1_19 => (simp only [List.getElem?_toArray, List.getElem?_cons_succ, List.getElem?_cons_zero]; rfl)
  case yi_1_19 =>
    refine Or.inl ⟨by rfl, ?_⟩
    intro w hSw
    try dsimp only at hSw
    go_simp
    all_goals with_reducible rfl
  try simp only [Act.put, List.setIfInBounds_toArray, List.set_cons_zero, List.set_cons_succ]
  refine wpAnyH_take (i := 20) (oi := ?oq_1_20) (v := ?va_1_20) ?op_1_20 (by kernel_rfl) (by kernel_rfl) (by kernel_rfl) (fun _ _ _ h => h) ?yi_1_20 hHeld ?re_1_20
  case op_1_20 => (simp only [List.getElem?_toArray, List.getElem?_cons_succ, List.getElem?_cons_zero]; rfl)
  case yi_1_20 => exact (by
    refine yieldsIf_load_mid ?_ 40 (.tmp 7) ?_ x7 0 ?_ es7 _ ?_ Tryz.underlying40 ?_ (by rw [hl7]; exact msg_info)
    · rfl
    · rfl
    · rfl
    · intro w h
      have h : _ ∧ _ := h
      exact BlkAt.range h.2
    · rfl)
  try simp only [Act.put, List.setIfInBounds_toArray, List.set_cons_zero, List.set_cons_succ]
  refine wpAnyH_ready (rs := [21]) (by kernel_rfl) (by simp) (AllReadyH.cons (o := ?oq_1_21) ?op_1_21 (fun K hK => ?re_1_21) AllReadyH.nil)
  case op_1_21 => (simp only [List.getElem?_toArray, List.getElem?_cons_succ, List.getElem?_cons_zero]; rfl)
  go_simp
  go_at_call 17
  refine (where_any 100 _).mono ?_
  rintro en z3 ⟨u2, rfl, hU2, b9⟩
  have hN5q := hN5.below b9
  clear hN5
  have hN5 := hN5q
  clear hN5q
  have hF5q := hF5.below b9
  clear hF5
  have hF5 := hF5q
  clear hF5q
  have hX5q := hX5.below b9
  clear hX5
  have hX5 := hX5q
  clear hX5q
  have hF7q := hF7.below b9
  clear hF7
  have hF7 := hF7q
  clear hF7q
  have hX7q := hX7.below b9
  clear hX7
  have hX7 := hX7q
  clear hX7q
  have hbq := below_step hb b9
  clear hb
  have hb := hbq
  clear hbq b9
  refine hK.out _ _ (by exact ⟨hX5, hX7⟩) (fun hHeld => ?_)
  clear hK K
  try simp only [Act.put, List.setIfInBounds_toArray, List.set_cons_zero, List.set_cons_succ]
  refine wpAnyH_ready (rs := [22]) (by kernel_rfl) (by simp) (AllReadyH.cons (o := ?oq_1_22) ?op_1_22 (fun K hK => ?re_1_22) AllReadyH.nil)
  case op_1_22 => (simp only [List.getElem?_toArray, List.getElem?_cons_succ, List.getElem?_cons_zero]; rfl)
  go_simp
  go_at_call 14
  refine (qwsame_any (by exact hF7.at) (by exact hU2) rfl rfl).mono ?_
  rintro en z4 ⟨rfl, b9⟩
  rw [decide_eq_true (rfl : whereM 100 = whereM 100)]
  have hN5q := hN5.below b9
  clear hN5
  have hN5 := hN5q
  clear hN5q
  have hF5q := hF5.below b9
  clear hF5
  have hF5 := hF5q
  clear hF5q
  have hX5q := hX5.below b9
  clear hX5
  have hX5 := hX5q
  clear hX5q
  have hF7q := hF7.below b9
  clear hF7
  have hF7 := hF7q
  clear hF7q
  have hX7q := hX7.below b9
  clear hX7
  have hX7 := hX7q
  clear hX7q
  have hbq := below_step hb b9
  clear hb
  have hb := hbq
  clear hbq b9
  refine hK.out _ _ (by exact ⟨hX5, hX7⟩) (fun hHeld => ?_)
  clear hK K
  try simp only [Act.put, List.setIfInBounds_toArray, List.set_cons_zero, List.set_cons_succ]
  refine wpAnyH_take (i := 23) (oi := ?oq_1_23) (v := ?va_1_23) ?op_1_23 (by kernel_rfl) (by kernel_rfl) (by kernel_rfl) (fun _ _ _ h => h) ?yi_1_23 hHeld ?re_1_23
  case op_1_23 => (simp only [List.getElem?_toArray, List.getElem?_cons_succ, List.getElem?_cons_zero]; rfl)
  case yi_1_23 =>
    refine Or.inl ⟨by rfl, ?_⟩
    intro w hSw
    try dsimp only at hSw
    go_simp
    all_goals with_reducible rfl
  try simp only [Act.put, List.setIfInBounds_toArray, List.set_cons_zero, List.set_cons_succ]
  refine wpAnyH_take (i := 24) (oi := ?oq_1_24) (v := ?va_1_24) ?op_1_24 (by kernel_rfl) (by kernel_rfl) (by kernel_rfl) (fun _ _ _ h => h) ?yi_1_24 hHeld ?re_1_24
  case op_1_24 => (simp only [List.getElem?_toArray, List.getElem?_cons_succ, List.getElem?_cons_zero]; rfl)
  case yi_1_24 =>
    refine Or.inl ⟨by rfl, ?_⟩
    intro w hSw
    try dsimp only at hSw
    go_simp
    all_goals with_reducible rfl
  try simp only [Act.put, List.setIfInBounds_toArray, List.set_cons_zero, List.set_cons_succ]
  refine wpAnyH_take (i := 25) (oi := ?oq_1_25) (v := ?va_1_25) ?op_1_25 (by kernel_rfl) (by kernel_rfl) (by kernel_rfl) (fun _ _ _ h => h) ?yi_1_25 hHeld ?re_1_25
  case op_1_25 => (simp only [List.getElem?_toArray, List.getElem?_cons_succ, List.getElem?_cons_zero]; rfl)
  case yi_1_25 =>
    refine Or.inl ⟨by rfl, ?_⟩
    intro w hSw
    try dsimp only at hSw
    go_simp
    all_goals with_reducible rfl
  try simp only [Act.put, List.setIfInBounds_toArray, List.set_cons_zero, List.set_cons_succ]
  refine wpAnyH_take (i := 26) (oi := ?oq_1_26) (v := ?va_1_26) ?op_1_26 (by kernel_rfl) (by kernel_rfl) (by kernel_rfl) (fun _ _ _ h => h) ?yi_1_26 hHeld ?re_1_26
  case op_1_26 => (simp only [List.getElem?_toArray, List.getElem?_cons_succ, List.getElem?_cons_zero]; rfl)
  case yi_1_26 =>
    refine Or.inl ⟨by rfl, ?_⟩
    intro w hSw
    try dsimp only at hSw
    go_simp
    all_goals with_reducible rfl
  try simp only [Act.put, List.setIfInBounds_toArray, List.set_cons_zero, List.set_cons_succ]
  refine wpAnyH_take (i := 27) (oi := ?oq_1_27) (v := ?va_1_27) ?op_1_27 (by kernel_rfl) (by kernel_rfl) (by kernel_rfl) (fun _ _ _ h => h) ?yi_1_27 hHeld ?re_1_27
  case op_1_27 => (simp only [List.getElem?_toArray, List.getElem?_cons_succ, List.getElem?_cons_zero]; rfl)
  case yi_1_27 =>
    refine Or.inl ⟨by rfl, ?_⟩
    intro w hSw
    try dsimp only at hSw
    go_simp
    all_goals with_reducible rfl
  try simp only [Act.put, List.setIfInBounds_toArray, List.set_cons_zero, List.set_cons_succ]
  refine wpAnyH_take (i := 28) (oi := ?oq_1_28) (v := ?va_1_28) ?op_1_28 (by kernel_rfl) (by kernel_rfl) (by kernel_rfl) (fun _ _ _ h => h) ?yi_1_28 hHeld ?re_1_28
  case op_1_28 => (simp only [List.getElem?_toArray, List.getElem?_cons_succ, List.getElem?_cons_zero]; rfl)
  case yi_1_28 =>
    refine Or.inl ⟨by rfl, ?_⟩
    intro w hSw
    try dsimp only at hSw
    go_simp
    all_goals with_reducible rfl
  try simp only [Act.put, List.setIfInBounds_toArray, List.set_cons_zero, List.set_cons_succ]
  refine wpAnyH_take (i := 29) (oi := ?oq_1_29) (v := ?va_1_29) ?op_1_29 (by kernel_rfl) (by kernel_rfl) (by kernel_rfl) (fun _ _ _ h => h) ?yi_1_29 hHeld ?re_1_29
  case op_1_29 => (simp only [List.getElem?_toArray, List.getElem?_cons_succ, List.getElem?_cons_zero]; rfl)
  case yi_1_29 =>
    refine Or.inl ⟨by rfl, ?_⟩
    intro w hSw
    try dsimp only at hSw
    go_simp
    all_goals with_reducible rfl
  try simp only [Act.put, List.setIfInBounds_toArray, List.set_cons_zero, List.set_cons_succ]
  refine wpAnyH_take (i := 30) (oi := ?oq_1_30) (v := ?va_1_30) ?op_1_30 (by kernel_rfl) (by kernel_rfl) (by kernel_rfl) (fun _ _ _ h => h) ?yi_1_30 hHeld ?re_1_30
  case op_1_30 => (simp only [List.getElem?_toArray, List.getElem?_cons_succ, List.getElem?_cons_zero]; rfl)
  case yi_1_30 =>
    refine Or.inl ⟨by rfl, ?_⟩
    intro w hSw
    try dsimp only at hSw
    go_simp
    all_goals with_reducible rfl
  try simp only [Act.put, List.setIfInBounds_toArray, List.set_cons_zero, List.set_cons_succ]
  refine wpAnyH_take (i := 31) (oi := ?oq_1_31) (v := ?va_1_31) ?op_1_31 (by kernel_rfl) (by kernel_rfl) (by kernel_rfl) (fun _ _ _ h => h) ?yi_1_31 hHeld ?re_1_31
  case op_1_31 => (simp only [List.getElem?_toArray, List.getElem?_cons_succ, List.getElem?_cons_zero]; rfl)
  case yi_1_31 =>
    refine Or.inl ⟨by rfl, ?_⟩
    intro w hSw
    try dsimp only at hSw
    go_simp
    all_goals with_reducible rfl
  try simp only [Act.put, List.setIfInBounds_toArray, List.set_cons_zero, List.set_cons_succ]
  refine wpAnyH_take (i := 32) (oi := ?oq_1_32) (v := ?va_1_32) ?op_1_32 (by kernel_rfl) (by kernel_rfl) (by kernel_rfl) (fun _ _ _ h => h) ?yi_1_32 hHeld ?re_1_32
  case op_1_32 => (simp only [List.getElem?_toArray, List.getElem?_cons_succ, List.getElem?_cons_zero]; rfl)
  case yi_1_32 =>
    refine Or.inl ⟨by rfl, ?_⟩
    intro w hSw
    try dsimp only at hSw
    go_simp
    all_goals with_reducible rfl
  try simp only [Act.put, List.setIfInBounds_toArray, List.set_cons_zero, List.set_cons_succ]
  refine wpAnyH_take (i := 33) (oi := ?oq_1_33) (v := ?va_1_33) ?op_1_33 (by kernel_rfl) (by kernel_rfl) (by kernel_rfl) (fun _ _ _ h => h) ?yi_1_33 hHeld ?re_1_33
  case op_1_33 => (simp only [List.getElem?_toArray, List.getElem?_cons_succ, List.getElem?_cons_zero]; rfl)
  case yi_1_33 =>
    refine Or.inl ⟨by rfl, ?_⟩
    intro w hSw
    try dsimp only at hSw
    go_simp
    all_goals with_reducible rfl
  try simp only [Act.put, List.setIfInBounds_toArray, List.set_cons_zero, List.set_cons_succ]
  refine wpAnyH_take (i := 34) (oi := ?oq_1_34) (v := ?va_1_34) ?op_1_34 (by kernel_rfl) (by kernel_rfl) (by kernel_rfl) (fun _ _ _ h => h) ?yi_1_34 hHeld ?re_1_34
  case op_1_34 => (simp only [List.getElem?_toArray, List.getElem?_cons_succ, List.getElem?_cons_zero]; rfl)
  case yi_1_34 =>
    refine Or.inl ⟨by rfl, ?_⟩
    intro w hSw
    try dsimp only at hSw
    go_simp
    all_goals with_reducible rfl
  try simp only [Act.put, List.setIfInBounds_toArray, List.set_cons_zero, List.set_cons_succ]
  refine wpAnyH_take (i := 35) (oi := ?oq_1_35) (v := ?va_1_35) ?op_1_35 (by kernel_rfl) (by kernel_rfl) (by kernel_rfl) (fun _ _ _ h => h) ?yi_1_35 hHeld ?re_1_35
  case op_1_35 => (simp only [List.getElem?_toArray, List.getElem?_cons_succ, List.getElem?_cons_zero]; rfl)
  case yi_1_35 =>
    refine Or.inl ⟨by rfl, ?_⟩
    intro w hSw
    try dsimp only at hSw
    go_simp
    all_goals with_reducible rfl
  try simp only [Act.put, List.setIfInBounds_toArray, List.set_cons_zero, List.set_cons_succ]
  refine wpAnyH_take (i := 36) (oi := ?oq_1_36) (v := ?va_1_36) ?op_1_36 (by kernel_rfl) (by kernel_rfl) (by kernel_rfl) (fun _ _ _ h => h) ?yi_1_36 hHeld ?re_1_36
  case op_1_36 => (simp only [List.getElem?_toArray, List.getElem?_cons_succ, List.getElem?_cons_zero]; rfl)
  case yi_1_36 =>
    refine Or.inl ⟨by rfl, ?_⟩
    intro w hSw
    try dsimp only at hSw
    go_simp
    all_goals with_reducible rfl
  try simp only [Act.put, List.setIfInBounds_toArray, List.set_cons_zero, List.set_cons_succ]
  refine wpAnyH_take (i := 37) (oi := ?oq_1_37) (v := ?va_1_37) ?op_1_37 (by kernel_rfl) (by kernel_rfl) (by kernel_rfl) (fun _ _ _ h => h) ?yi_1_37 hHeld ?re_1_37
  case op_1_37 => (simp only [List.getElem?_toArray, List.getElem?_cons_succ, List.getElem?_cons_zero]; rfl)
  case yi_1_37 =>
    refine Or.inl ⟨by rfl, ?_⟩
    intro w hSw
    try dsimp only at hSw
    go_simp
    all_goals with_reducible rfl
  try simp only [Act.put, List.setIfInBounds_toArray, List.set_cons_zero, List.set_cons_succ]
  refine wpAnyH_take (i := 38) (oi := ?oq_1_38) (v := ?va_1_38) ?op_1_38 (by kernel_rfl) (by kernel_rfl) (by kernel_rfl) (fun _ _ _ h => h) ?yi_1_38 hHeld ?re_1_38
  case op_1_38 => (simp only [List.getElem?_toArray, List.getElem?_cons_succ, List.getElem?_cons_zero]; rfl)
  case yi_1_38 =>
    refine Or.inl ⟨by rfl, ?_⟩
    intro w hSw
    try dsimp only at hSw
    go_simp
    all_goals with_reducible rfl
  try simp only [Act.put, List.setIfInBounds_toArray, List.set_cons_zero, List.set_cons_succ]
  refine wpAnyH_take (i := 39) (oi := ?oq_1_39) (v := ?va_1_39) ?op_1_39 (by kernel_rfl) (by kernel_rfl) (by kernel_rfl) (fun _ _ _ h => h) ?yi_1_39 hHeld ?re_1_39
  case op_1_39 => (simp only [List.getElem?_toArray, List.getElem?_cons_succ, List.getElem?_cons_zero]; rfl)
  case yi_1_39 =>
    refine Or.inl ⟨by rfl, ?_⟩
    intro w hSw
    try dsimp only at hSw
    go_simp
    all_goals with_reducible rfl
  try simp only [Act.put, List.setIfInBounds_toArray, List.set_cons_zero, List.set_cons_succ]
  refine wpAnyH_take (i := 40) (oi := ?oq_1_40) (v := ?va_1_40) ?op_1_40 (by kernel_rfl) (by kernel_rfl) (by kernel_rfl) (fun _ _ _ h => h) ?yi_1_40 hHeld ?re_1_40
  case op_1_40 => (simp only [List.getElem?_toArray, List.getElem?_cons_succ, List.getElem?_cons_zero]; rfl)
  case yi_1_40 =>
    refine Or.inl ⟨by rfl, ?_⟩
    intro w hSw
    try dsimp only at hSw
    go_simp
    all_goals with_reducible rfl
  try simp only [Act.put, List.setIfInBounds_toArray, List.set_cons_zero, List.set_cons_succ]
  refine wpAnyH_take (i := 41) (oi := ?oq_1_41) (v := ?va_1_41) ?op_1_41 (by kernel_rfl) (by kernel_rfl) (by kernel_rfl) (fun _ _ _ h => h) ?yi_1_41 hHeld ?re_1_41
  case op_1_41 => (simp only [List.getElem?_toArray, List.getElem?_cons_succ, List.getElem?_cons_zero]; rfl)
  case yi_1_41 =>
    refine Or.inl ⟨by rfl, ?_⟩
    intro w hSw
    try dsimp only at hSw
    go_simp
    all_goals with_reducible rfl
  try simp only [Act.put, List.setIfInBounds_toArray, List.set_cons_zero, List.set_cons_succ]
  refine wpAnyH_ready (rs := [42]) (by kernel_rfl) (by simp) (AllReadyH.cons (o := ?oq_1_42) ?op_1_42 (fun K hK => ?re_1_42) AllReadyH.nil)
  case op_1_42 => (simp only [List.getElem?_toArray, List.getElem?_cons_succ, List.getElem?_cons_zero]; rfl)
  go_simp
  go_at_call 15
  refine (nlen_any (by exact hN5)).mono ?_
  rintro en z5 ⟨rfl, rfl⟩
  refine hK.out _ _ (by exact ⟨hX5, hX7⟩) (fun hHeld => ?_)
  clear hK K
  try simp only [Act.put, List.setIfInBounds_toArray, List.set_cons_zero, List.set_cons_succ]
  refine wpAnyH_take (i := 43) (oi := ?oq_1_43) (v := ?va_1_43) ?op_1_43 (by kernel_rfl) (by kernel_rfl) (by kernel_rfl) (fun _ _ _ h => h) ?yi_1_43 hHeld ?re_1_43
  case op_1_43 => (simp only [List.getElem?_toArray, List.getElem?_cons_succ, List.getElem?_cons_zero]; rfl)
  case yi_1_43 =>
    refine Or.inl ⟨by rfl, ?_⟩
    intro w hSw
    try dsimp only at hSw
    go_simp
    all_goals with_reducible rfl
  try simp only [Act.put, List.setIfInBounds_toArray, List.set_cons_zero, List.set_cons_succ]
  refine wpAnyH_take (i := 44) (oi := ?oq_1_44) (v := ?va_1_44) ?op_1_44 (by kernel_rfl) (by kernel_rfl) (by kernel_rfl) (fun _ _ _ h => h) ?yi_1_44 hHeld ?re_1_44
  case op_1_44 => (simp only [List.getElem?_toArray, List.getElem?_cons_succ, List.getElem?_cons_zero]; rfl)
  case yi_1_44 =>
    refine Or.inl ⟨by rfl, ?_⟩
    intro w hSw
    try dsimp only at hSw
    go_simp
    all_goals with_reducible rfl
  try simp only [Act.put, List.setIfInBounds_toArray, List.set_cons_zero, List.set_cons_succ]
  refine wpAnyH_take (i := 45) (oi := ?oq_1_45) (v := ?va_1_45) ?op_1_45 (by kernel_rfl) (by kernel_rfl) (by kernel_rfl) (fun _ _ _ h => h) ?yi_1_45 hHeld ?re_1_45
  case op_1_45 => (simp only [List.getElem?_toArray, List.getElem?_cons_succ, List.getElem?_cons_zero]; rfl)
  case yi_1_45 =>
    refine Or.inl ⟨by rfl, ?_⟩
    intro w hSw
    try dsimp only at hSw
    go_simp
    all_goals with_reducible rfl
  try simp only [Act.put, List.setIfInBounds_toArray, List.set_cons_zero, List.set_cons_succ]
  refine wpAnyH_done (by kernel_rfl) ?_ _
  refine NoPanic.normal ?_
  go_wp2_with fail
  go_ret
  exact ⟨rfl, hb⟩
end Go.Proofs.YtnaabaahfjklhaaGreat
