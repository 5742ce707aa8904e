/- The network's calls: Send, Peek, Take, Double, Counts, Copy. -/
import Derived.Test.YtnaabaahfjklhaaGreatNetRow
import Derived.Test.YtnaabaahfjklhaaGreatWireAwake
import Derived.Deep.DeepCutAuto
namespace Go.Proofs.YtnaabaahfjklhaaGreat
open Go.RowKit Go.ChangeShapes Go.WideShapes Go.Joins Go.Deep
set_option linter.unusedVariables false

/-- How many went. -/
def sentTo (s x : Int) : Int := if x = 0 then s + 1 else s
theorem sent_yes (s : Int) : sentTo s 0 = s + 1 := if_pos rfl
theorem sent_not {x : Int} (h : x ≠ 0) (s : Int) : sentTo s x = s := if_neg h
set_option maxRecDepth 100000 in
set_option maxHeartbeats 2000000 in

theorem nsend_any {B b : Nat} {w : World} {v : Value} {L : List MsgV} {s t : Int} (h : NetAt B w b v L s t) (hs : 0 ≤ s ∧ s ≤ 1000000000) {M : MsgV} {u : Value} (hu : M.At w u) (hok : MOk M) (hc1 : M.cf.chain.length ≤ 1000) (hc2 : M.op.cron.length ≤ 10000)
    {L' : List MsgV} {x : Int} (hx : sendN L M = (L', x)) :
    Calls Tryz.prog 12 #[.pointer (some ⟨b, 0, none⟩), u] w fun e w' => e = .returned (.int .i64 x) ∧ ∃ v', NetAt B w' b v' L' (sentTo s x) t ∧ NKept w w' b v.ownBlock ∧ RNew w v v' := by
  have HS := Lib.hid hs
  have HX := Lib.hid hx
  clear hs hx
  obtain ⟨cs, rfl, hlen, hone, hA⟩ := At.parts hu hok.op.1
  clear hu hone
  have hM := BlkAt.new w 40 cs
  have hb := (Below.refl w.heap.size w).alloc (Nat.le_refl _) (.cells cs.toArray 40)
  have hN := h.below hb
  have hA1 := hA.below hb
  have hkp : NKept w (w.alloc (.cells cs.toArray 40)) b v.ownBlock := NKept.of_below hb
  have hsz : w.heap.size ≤ (w.alloc (.cells cs.toArray 40)).heap.size := hb.size
  clear h hA hb
  go_enter Tryz.func12, Tryz.ntmps12
  go_upto_region 1 with (fail)
  change Code.wp _ _ _ _ (w.alloc (.cells cs.toArray 40))
  change BlkAt (w.alloc (.cells cs.toArray 40)) _ _ _ at hM
  generalize w.alloc (.cells cs.toArray 40) = W at *
  obtain ⟨m, hm⟩ : ∃ m, m = w.heap.size := ⟨_, rfl⟩
  rw [← hm] at hM ⊢
  clear hm
  obtain ⟨p, y, hp⟩ : ∃ p y, printM M = (p, y) := ⟨_, _, rfl⟩
  have HP := Lib.hid hp
  clear hp
  go_wp2_with (refine wpList_load_mid rfl 40 (.tmp 3) rfl m 0 rfl cs _ hM.range Tryz.underlying40 rfl (by rw [hlen]; exact msg_info) ?_; simp only [Act.put, List.setIfInBounds_toArray, List.set_cons_zero, List.set_cons_succ])
  refine (wprint_any (by exact hA1) hok hc1 hc2 HP.out).mono ?_
  rintro en w2 ⟨rfl, b2⟩
  have hN2 := hN.below b2
  have hk2 := hkp.trans (NKept.of_below b2)
  have hsz2 := Nat.le_trans hsz b2.size
  clear hM hA1 hN hkp hsz b2
  rcases goes_of hok HP.out with ⟨rfl, hG, rfl⟩ | hy
  · by_cases hl : 2000 ≤ L.length
    · have HE : Hid (L' = L ∧ x = 5) := Lib.hid (by
        have := HX.out
        rw [sendN, HP.out, if_pos rfl, if_pos hl] at this
        obtain ⟨h1, h2⟩ := Prod.mk.inj this
        exact ⟨h1.symm, h2.symm⟩)
      go_wp2_with fail
      refine (nput_full (by exact hN2) hl _).mono ?_
      rintro en w3 ⟨rfl, rfl⟩
      have HN := Lib.hid hN2
      have HK := Lib.hid hk2
      clear hN2 hk2
      go_wp2_with fail
      go_ret
      exact ⟨by (rw [HE.out.2]; try rfl), v, by rw [HE.out.1, HE.out.2, sent_not (by decide)]; exact HN.out, HK.out, RNew.refl _ _⟩
    · have HE : Hid (L' = L ++ [M] ∧ x = 0) := Lib.hid (by
        have := HX.out
        rw [sendN_some hG (by omega)] at this
        obtain ⟨h1, h2⟩ := Prod.mk.inj this
        exact ⟨h1.symm, h2.symm⟩)
      go_wp2_with fail
      refine (nput_room (by exact hN2) (by omega) hG).mono ?_
      rintro en w3 ⟨rfl, v', hN3, hk3, hr3⟩
      have hk := NKept.trans hk2 hk3
      have hr : RNew w v v' := fun j hj => by
        rcases hr3 j hj with h1 | h1
        · exact .inl h1
        · exact .inr (by omega)
      have HN := Lib.hid (hN3.set1 (s + 1))
      have HK := Lib.hid (hk.trans (NKept.of_grownB (grown_setCell w3 b 1 (.int .i64 (s + 1)))))
      have HR := Lib.hid hr
      have c1 := hN3.cell1
      have hf := hN3.free 1
      clear hN2 hk2 hN3 hk3 hr3 hk hr
      go_wp2_with fail
      refine (aadd_any (by exact c1) (by exact hf) HS.out).mono ?_
      rintro en w4 ⟨rfl, rfl⟩
      clear c1 hf
      go_wp2_with fail
      go_ret
      exact ⟨by (rw [HE.out.2]; try rfl), v', by rw [HE.out.1, HE.out.2, sent_yes]; exact HN.out, HK.out, HR.out⟩
  · have hyb : (y == 0) = false := by simpa using hy
    have HE : Hid (L' = L ∧ x = y) := Lib.hid (by
      have := HX.out
      rw [sendN, HP.out, if_neg hy] at this
      obtain ⟨h1, h2⟩ := Prod.mk.inj this
      exact ⟨h1.symm, h2.symm⟩)
    have HY := Lib.hid hy
    have HN := Lib.hid hN2
    have HK := Lib.hid hk2
    clear hy hN2 hk2
    go_wp2_with fail
    go_ret
    exact ⟨by (rw [HE.out.2]; try rfl), v, by rw [HE.out.1, HE.out.2, sent_not HY.out]; exact HN.out, HK.out, RNew.refl _ _⟩
set_option maxRecDepth 100000 in
set_option maxHeartbeats 2000000 in

theorem nsend_nil {w : World} {M : MsgV} {u : Value} (hu : M.At w u) (hop : M.op.v.length = 8) :
    Calls Tryz.prog 12 #[.pointer none, u] w fun e w' => e = .returned (.int .i64 12) ∧ Below w.heap.size w w' := by
  obtain ⟨cs, rfl, hlen, hone, hA⟩ := At.parts hu hop
  have hb := (Below.refl w.heap.size w).alloc (Nat.le_refl _) (.cells cs.toArray 40)
  go_enter Tryz.func12, Tryz.ntmps12
  go_wp2_with fail
  go_ret
  exact ⟨rfl, hb⟩
set_option maxRecDepth 100000 in
theorem ncounts_nil (w : World) : Calls Tryz.prog 25 #[.pointer none] w fun e w' => e = .returned (.tuple #[.int .i64 0, .int .i64 0]) ∧ w = w' := by
  go_enter Tryz.func25, Tryz.ntmps25
  go_wp2_with fail
  go_ret2
  exact ⟨rfl, rfl⟩
set_option maxRecDepth 100000 in
theorem ncopy_nil (w : World) : Calls Tryz.prog 24 #[.pointer none] w fun e w' => e = .returned (.pointer none) ∧ w = w' := by
  go_enter Tryz.func24, Tryz.ntmps24
  go_wp2_with fail
  go_ret
  exact ⟨rfl, rfl⟩
set_option maxRecDepth 100000 in
set_option maxHeartbeats 1000000 in
theorem ndouble_nil (w : World) (i : Int) : Calls Tryz.prog 18 #[.pointer none, .int .i64 i] w fun e w' => e = .returned (.int .i64 12) ∧ Below w.heap.size w w' := by
  go_enter Tryz.func18, Tryz.ntmps18
  go_wp2_with fail
  refine (nplace_nil _ i).mono ?_
  rintro en w2 ⟨rfl, rfl⟩
  go_wp2_with fail
  go_ret
  exact ⟨rfl, Below.refl _ _⟩
set_option maxRecDepth 100000 in
set_option maxHeartbeats 1000000 in
theorem ndouble_none {B b : Nat} {w : World} {v : Value} {s t : Int} (h : NetAt B w b v [] s t) (i : Int) :
    Calls Tryz.prog 18 #[.pointer (some ⟨b, 0, none⟩), .int .i64 i] w fun e w' => e = .returned (.int .i64 10) ∧ w = w' := by
  go_enter Tryz.func18, Tryz.ntmps18
  go_wp2_with fail
  refine (nplace_none (by exact h) i).mono ?_
  rintro en w2 ⟨rfl, rfl⟩
  go_wp2_with fail
  go_ret
  exact ⟨rfl, rfl⟩
/-- A text under way. -/
theorem NetAt.text {B b : Nat} {w : World} {A : Option Addr} {cap : Nat} {L : List MsgV} {s t : Int} (h : NetAt B w b (.slice A L.length cap) L s t) {k : Nat} {M : MsgV} (hk : L[k]? = some M) :
    ∃ g, A = some ⟨g, 0, none⟩ ∧ w.cell? ⟨g, k, none⟩ = some (.string ⟨(ptext M).toArray⟩) := by
  have hkl := (List.getElem?_eq_some_iff.1 hk).1
  have ho := h.2.2.1
  rcases ho.2 with ⟨hv, h0⟩ | ⟨g, cap', cur, hv, hg, hr, hn, hc, hs, ht⟩
  · omega
  · simp only [Value.slice.injEq] at hv
    obtain ⟨rfl, _, rfl⟩ := hv
    refine ⟨g, rfl, ?_⟩
    rw [World.ownsRow.cellAt ho k (by omega), strsCells_at (l := ptext M) (by rw [List.getElem?_map, hk]; rfl)]
set_option maxRecDepth 100000 in
set_option maxHeartbeats 1000000 in

theorem ndouble_any {B b : Nat} {w : World} {v : Value} {L : List MsgV} {s t : Int} (h : NetAt B w b v L s t) (hL : L ≠ []) (hl : L.length ≤ 1000000) {i : Int} (hi : W64 i) {L' : List MsgV} {x : Int} (hx : dblN L i = (L', x)) :
    Calls Tryz.prog 18 #[.pointer (some ⟨b, 0, none⟩), .int .i64 i] w fun e w' => e = .returned (.int .i64 x) ∧ ∃ v', NetAt B w' b v' L' s t ∧ NKept w w' b v.ownBlock ∧ RNew w v v' := by
  obtain ⟨M, hM⟩ := place_some hL i
  have hG := h.goes hM
  rw [dblN_some hM] at hx
  have HX := Lib.hid hx
  obtain ⟨A, cap, rfl⟩ := h.form
  obtain ⟨g, rfl, hc⟩ := h.text hM
  have c0 := h.cell0
  have hlt : placeN i L.length < L.length := placeN_lt i (List.length_pos_iff.2 hL)
  have hlt' : ((placeN i L.length : Nat) : Int) < (L.length : Int) := by omega
  clear hx hM
  go_enter Tryz.func18, Tryz.ntmps18
  go_wp2_with fail
  refine (nplace_any (by exact h) hL hl hi).mono ?_
  rintro en w2 ⟨rfl, rfl⟩
  generalize placeN i L.length = k at *
  by_cases hf : 2000 ≤ L.length
  · have HE : Hid (L' = L ∧ x = 5) := Lib.hid (by
      have := HX.out
      rw [if_pos hf] at this
      obtain ⟨h1, h2⟩ := Prod.mk.inj this
      exact ⟨h1.symm, h2.symm⟩)
    go_wp2_with fail
    refine (nput_full (by exact h) hf _).mono ?_
    rintro en w3 ⟨rfl, rfl⟩
    have HN := Lib.hid h
    clear h c0 hc
    go_wp2_with fail
    go_ret
    exact ⟨by (rw [HE.out.2]; try rfl), _, by rw [HE.out.1]; exact HN.out, NKept.refl _ _ _, RNew.refl _ _⟩
  · have HE : Hid (L' = L ++ [M] ∧ x = 0) := Lib.hid (by
      have := HX.out
      rw [if_neg hf] at this
      obtain ⟨h1, h2⟩ := Prod.mk.inj this
      exact ⟨h1.symm, h2.symm⟩)
    go_wp2_with fail
    refine (nput_room (by exact h) (by omega) hG).mono ?_
    rintro en w3 ⟨rfl, v', hN3, hk3, hr3⟩
    have HN := Lib.hid hN3
    have HK := Lib.hid hk3
    have HR := Lib.hid hr3
    clear h c0 hc hN3 hk3 hr3
    go_wp2_with fail
    go_ret
    exact ⟨by (rw [HE.out.2]; try rfl), v', by rw [HE.out.1]; exact HN.out, HK.out, HR.out⟩
end Go.Proofs.YtnaabaahfjklhaaGreat
