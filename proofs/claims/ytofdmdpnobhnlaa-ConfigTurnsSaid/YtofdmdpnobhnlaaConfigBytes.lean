/- ConfigBytes: for every chain and every text the law answers true. No condition. -/
import Derived.Test.YtofdmdpnobhnlaaCfgAwake
import Derived.Deep.DeepCutAuto
namespace Go.Proofs.Ytofdmdpnobhnlaa
open Go.RowKit Go.ChangeShapes Go.WideShapes Go.Joins
open Go.ChangeMaps (open_string shut_string)
set_option linter.unusedVariables false

theorem cread_is {l : List UInt8} (hl : l.length ≤ 1000000) {c : ConfV} {ok : Bool} (hr : readC l = (c, ok)) {x : Int} (hx : okErr ok = x) (w : World) :
    Calls Try.prog 33 #[.string ⟨l.toArray⟩] w fun en w' => ∃ a cap, en = .returned (.tuple #[.agg #[.int .i64 c.epoch, .slice a c.chain.length cap], .int .i64 x]) ∧ ChainAt w' (.slice a c.chain.length cap) c.chain ∧ Below w.heap.size w w' := by
  subst hx
  refine (cread_at hl hr w).mono ?_
  rintro en w' ⟨v, rfl, hv, hb⟩
  obtain ⟨a, cap, rfl, hs⟩ := hv
  exact ⟨a, cap, rfl, ⟨a, cap, rfl, hs⟩, hb⟩
theorem qcread_is {l : List UInt8} (hl : l.length ≤ 1000000) {c : ConfV} {ok : Bool} (hr : readC l = (c, ok)) (w : World) :
    Calls Try.prog 34 #[.string ⟨l.toArray⟩] w fun en w' => ∃ a cap, en = .returned (.tuple #[.agg #[.int .i64 c.epoch, .slice a c.chain.length cap], .bool ok]) ∧ ChainAt w' (.slice a c.chain.length cap) c.chain ∧ Below w.heap.size w w' := by
  refine (qcread_at hl hr w).mono ?_
  rintro en w' ⟨v, rfl, hv, hb⟩
  obtain ⟨a, cap, rfl, hs⟩ := hv
  exact ⟨a, cap, rfl, ⟨a, cap, rfl, hs⟩, hb⟩
theorem ChainAt.grownQ {w w' : World} {v : Value} {L : List SeatV} {X : Nat} {T : TypeId} {cs : List Value} (h : ChainAt w v L) (hX : BlkAt w X T cs) (hn : ∀ (i : Nat) (z : Bool), cs[i]? ≠ some (.bool z)) (hg : w.grownBy w' (some X)) : ChainAt w' v L := by
  obtain ⟨a, cap, rfl, hs⟩ := h
  refine ⟨a, cap, rfl, hs.1, hs.2.1, fun hp => ?_⟩
  obtain ⟨b, off, rfl, hab, hc⟩ := hs.2.2 hp
  have hne : b ≠ X := by
    rintro rfl
    obtain ⟨s, hs'⟩ : ∃ s, L[0]? = some s := ⟨_, List.getElem?_eq_getElem hp⟩
    have h2 := (hc 0 s hs').2.2
    rw [cell_of_row _ _ _ _ _ _ hX, List.getElem?_toArray] at h2
    exact hn _ _ h2
  exact ⟨b, off, rfl, Nat.lt_of_lt_of_le hab hg.size, fun i s hi => (hc i s hi).of fun j => World.cell?_of_block (a := ⟨b, j, none⟩) (hg.block b hab (by simpa using hne))⟩
theorem sameC_self (c : ConfV) : sameC ⟨c.epoch, c.chain⟩ ⟨c.epoch, c.chain⟩ = true := sameC_iff.2 rfl

set_option maxRecDepth 100000 in
set_option maxHeartbeats 4000000 in

theorem ConfigBytes_go {w : World} {e : Int} {a : Option Addr} {cap : Nat} {L : List SeatV} (hv : ChainAt w (.slice a L.length cap) L) (l : List UInt8) (hll : l.length ≤ maxLen) :
    Calls Try.prog 9 #[.agg #[.int .i64 e, .slice a L.length cap], .string ⟨l.toArray⟩] w fun e w' => e = .returned (.bool true) ∧ Below w.heap.size w w' := by
  unfold maxLen at hll
  have hvw := hv
  go_enter Try.func9, Try.ntmps9
  go_upto_region 1 with (fail)
  have hC : BlkAt (w.alloc (.cells #[.int .i64 e, .slice a L.length cap] 24)) w.heap.size 24 [.int .i64 e, .slice a L.length cap] := BlkAt.new w 24 [.int .i64 e, .slice a L.length cap]
  have hb : Below w.heap.size w (w.alloc (.cells #[.int .i64 e, .slice a L.length cap] 24)) := (Below.refl w.heap.size w).alloc (Nat.le_refl _) _
  have hWs : w.heap.size + 1 ≤ (w.alloc (.cells #[.int .i64 e, .slice a L.length cap] 24)).heap.size := by simp
  have hv := hv.below hb
  change Code.wp _ _ _ _ (w.alloc (.cells #[.int .i64 e, .slice a L.length cap] 24))
  generalize w.alloc (.cells #[.int .i64 e, .slice a L.length cap] 24) = W at *
  clear hWs
  go_wp2_with fail
  refine (awake_any _).mono ?_
  rintro en w1 ⟨rfl, b1⟩
  have hC := BlkAt.below (by exact hC) b1
  have hv := hv.below b1
  have hb := below_step hb b1
  clear b1
  by_cases hf : L.length ≤ 40
  · have hfd : decide (L.length ≤ 40) = true := by simpa using hf
    have HF := Lib.hid hfd
    clear hfd
    have fhC0 : w1.cell? ⟨w.heap.size, 0, none⟩ = some (.int .i64 e) := hC.cell rfl
    have fhC1 : w1.cell? ⟨w.heap.size, 1, none⟩ = some (.slice a L.length cap) := hC.cell rfl
    go_wp2_with fail
    refine (few_one (by exact BlkAt.new _ 24 [.int .i64 e, .slice a L.length cap]) (by exact hv.alloc _)).mono ?_
    rintro en w2 ⟨rfl, b2⟩
    have hC := BlkAt.below (by exact hC.alloc (.cells #[.int .i64 e, .slice a L.length cap] 24)) b2
    have hv := (hv.alloc (.cells #[.int .i64 e, .slice a L.length cap] 24)).below b2
    have hb := below_step (hb.alloc hb.size (.cells #[.int .i64 e, .slice a L.length cap] 24)) b2
    clear fhC0 fhC1 b2
    rw [HF.out]
    by_cases h5 : l.length ≤ 500
    · have h5' : ¬ (500 : Int) < (l.length : Int) := by omega
      obtain ⟨c, ok, hrd⟩ : ∃ c ok, readC l = (c, ok) := ⟨_, _, rfl⟩
      have HRD := Lib.hid hrd
      clear hrd
      have hv0 := hvw
      obtain ⟨t, tl, te, htk⟩ : ∃ t tl te, takeC l 0 = (t, tl, te) := ⟨_, _, _, rfl⟩
      have HTK := Lib.hid htk
      clear htk
      cases ok with
      | true =>
        go_wp2_with fail
        refine (cread_is (by omega) HRD.out (x := 0) rfl _).mono ?_
        rintro en w3 ⟨a1, cap1, rfl, hv1, b3⟩
        have hC := BlkAt.below (by exact hC) b3
        have hv := hv.below b3
        have hb := below_step hb b3
        clear b3
        go_upto_region 4 with (fail)
        have lt_hC_hX : w.heap.size < w3.heap.size := hC.lt
        have hX := BlkAt.new w3 24 [.int .i64 c.epoch, .slice a1 c.chain.length cap1]
        have hC := hC.alloc (.cells #[.int .i64 c.epoch, .slice a1 c.chain.length cap1] 24)
        have hv := hv.alloc (.cells #[.int .i64 c.epoch, .slice a1 c.chain.length cap1] 24)
        have hv1 := hv1.alloc (.cells #[.int .i64 c.epoch, .slice a1 c.chain.length cap1] 24)
        have hb := hb.alloc hb.size (.cells #[.int .i64 c.epoch, .slice a1 c.chain.length cap1] 24)
        change Code.wp _ _ _ _ (w3.alloc (.cells #[.int .i64 c.epoch, .slice a1 c.chain.length cap1] 24))
        change BlkAt (w3.alloc (.cells #[.int .i64 c.epoch, .slice a1 c.chain.length cap1] 24)) _ _ _ at hX
        generalize w3.alloc (.cells #[.int .i64 c.epoch, .slice a1 c.chain.length cap1] 24) = v3_1 at *
        generalize w3.heap.size = X at *
        go_wp2_with fail
        refine (qcread_is (by omega) HRD.out _).mono ?_
        rintro en w4 ⟨a2, cap2, rfl, hv2, b4⟩
        have hC := BlkAt.below (by exact hC) b4
        have hX := BlkAt.below (by exact hX) b4
        have hv := hv.below b4
        have hv1 := hv1.below b4
        have hb := below_step hb b4
        clear b4
        go_upto_region 5 with (fail)
        have lt_hC_hY : w.heap.size < w4.heap.size := hC.lt
        have lt_hX_hY : X < w4.heap.size := hX.lt
        have hY := BlkAt.new w4 24 [.int .i64 c.epoch, .slice a2 c.chain.length cap2]
        have hC := hC.alloc (.cells #[.int .i64 c.epoch, .slice a2 c.chain.length cap2] 24)
        have hX := hX.alloc (.cells #[.int .i64 c.epoch, .slice a2 c.chain.length cap2] 24)
        have hv := hv.alloc (.cells #[.int .i64 c.epoch, .slice a2 c.chain.length cap2] 24)
        have hv1 := hv1.alloc (.cells #[.int .i64 c.epoch, .slice a2 c.chain.length cap2] 24)
        have hv2 := hv2.alloc (.cells #[.int .i64 c.epoch, .slice a2 c.chain.length cap2] 24)
        have hb := hb.alloc hb.size (.cells #[.int .i64 c.epoch, .slice a2 c.chain.length cap2] 24)
        change Code.wp _ _ _ _ (w4.alloc (.cells #[.int .i64 c.epoch, .slice a2 c.chain.length cap2] 24))
        change BlkAt (w4.alloc (.cells #[.int .i64 c.epoch, .slice a2 c.chain.length cap2] 24)) _ _ _ at hY
        generalize w4.alloc (.cells #[.int .i64 c.epoch, .slice a2 c.chain.length cap2] 24) = v4_2 at *
        generalize w4.heap.size = Y at *
        have fhX0 : v4_2.cell? ⟨X, 0, none⟩ = some (.int .i64 c.epoch) := hX.cell rfl
        have fhX1 : v4_2.cell? ⟨X, 1, none⟩ = some (.slice a1 c.chain.length cap1) := hX.cell rfl
        have fhY0 : v4_2.cell? ⟨Y, 0, none⟩ = some (.int .i64 c.epoch) := hY.cell rfl
        have fhY1 : v4_2.cell? ⟨Y, 1, none⟩ = some (.slice a2 c.chain.length cap2) := hY.cell rfl
        go_wp2_with fail
        refine (qcsame_at (by exact hv1) (by exact hv2) (sameC_self c)).mono ?_
        rintro en w5 ⟨rfl, b5⟩
        have hC := BlkAt.below (by exact hC) b5
        have hX := BlkAt.below (by exact hX) b5
        have hY := BlkAt.below (by exact hY) b5
        have hv := hv.below b5
        have hv1 := hv1.below b5
        have hv2 := hv2.below b5
        have hb := below_step hb b5
        clear fhX0 fhX1 fhY0 fhY1 b5
        clear hv1 hv2
        have hCl := hC.lt
        have hXl := hX.lt
        have hYl := hY.lt
        have hbs := hb.size
        go_wp2_with fail
        refine (read_any l _).mono ?_
        rintro en w6 ⟨rb, rfl, hR, hrb, b6⟩
        have hC := BlkAt.below (by exact hC) b6
        have hX := BlkAt.below (by exact hX) b6
        have hY := BlkAt.below (by exact hY) b6
        have hv := hv.below b6
        have hb := below_step hb b6
        clear b6
        have hRl := hR.lt
        have hCr : w.heap.size ≠ rb := by omega
        have hXr : X ≠ rb := by omega
        have hYr : Y ≠ rb := by omega
        have hwr : w.heap.size ≤ rb := by omega
        clear hrb hCl hXl hYl hbs
        have hRs := hR.lt
        go_upto_region 8 with (fail)
        have lt_hC_hQ : w.heap.size < w6.heap.size := hC.lt
        have lt_hX_hQ : X < w6.heap.size := hX.lt
        have lt_hY_hQ : Y < w6.heap.size := hY.lt
        have hQ := BlkAt.new w6 64 [.string ⟨l.toArray⟩, .int .i64 0, .int .i64 0]
        have hC := hC.alloc (.cells #[.string ⟨l.toArray⟩, .int .i64 0, .int .i64 0] 64)
        have hX := hX.alloc (.cells #[.string ⟨l.toArray⟩, .int .i64 0, .int .i64 0] 64)
        have hY := hY.alloc (.cells #[.string ⟨l.toArray⟩, .int .i64 0, .int .i64 0] 64)
        have hv := hv.alloc (.cells #[.string ⟨l.toArray⟩, .int .i64 0, .int .i64 0] 64)
        have hR := hR.alloc (.cells #[.string ⟨l.toArray⟩, .int .i64 0, .int .i64 0] 64)
        have hb := hb.alloc hb.size (.cells #[.string ⟨l.toArray⟩, .int .i64 0, .int .i64 0] 64)
        change Code.wp _ _ _ _ (w6.alloc (.cells #[.string ⟨l.toArray⟩, .int .i64 0, .int .i64 0] 64))
        change BlkAt (w6.alloc (.cells #[.string ⟨l.toArray⟩, .int .i64 0, .int .i64 0] 64)) _ _ _ at hQ
        generalize w6.alloc (.cells #[.string ⟨l.toArray⟩, .int .i64 0, .int .i64 0] 64) = v6_3 at *
        generalize w6.heap.size = Q at *
        have hQr : Q ≠ rb := by omega
        have hrQ : rb ≠ Q := by omega
        go_wp2_with fail
        refine (ctake_at (by exact hR) (by omega) HTK.out).mono ?_
        rintro en w20 ⟨v3, rfl, hv3, hR, hg⟩
        obtain ⟨a3, cap3, rfl, hs3⟩ := hv3
        have hv3 : ChainAt w20 (.slice a3 t.chain.length cap3) t.chain := ⟨a3, cap3, rfl, hs3⟩
        have hC := hC.grown hg hCr
        have hX := hX.grown hg hXr
        have hY := hY.grown hg hYr
        have hQ := hQ.grown hg hQr
        have hb := grown_below hb hg hwr
        clear hg hs3 hv
        have hv := hv0.below hb
        have fhX0 : w20.cell? ⟨X, 0, none⟩ = some (.int .i64 c.epoch) := hX.cell rfl
        have fhX1 : w20.cell? ⟨X, 1, none⟩ = some (.slice a1 c.chain.length cap1) := hX.cell rfl
        have hf := hX.free
        go_upto_region 9 with (fail)
        clear fhX0 fhX1
        clear hf
        have hv3 := (hv3.set2 hX 0 (.int .i64 t.epoch)).set2 (hX.set 0 (.int .i64 t.epoch)) 1 (.slice a3 t.chain.length cap3)
        have hXQ : X ≠ Q := by omega
        have hXY : X ≠ Y := by omega
        have hXC : X ≠ w.heap.size := by omega
        have hCq : w.heap.size ≠ Q := by omega
        have hYq : Y ≠ Q := by omega
        have hwX : w.heap.size ≤ X := by omega
        have hwQ : w.heap.size ≤ Q := by omega
        have G1 := grown_setCell w20 X 0 (.int .i64 t.epoch)
        have G2 := grown_setCell (w20.setCell ⟨X, 0, none⟩ (.int .i64 t.epoch)) X 1 (.slice a3 t.chain.length cap3)
        have hC := (hC.grown G1 hXC.symm).grown G2 hXC.symm
        have hY := (hY.grown G1 hXY.symm).grown G2 hXY.symm
        have hQ := (hQ.grown G1 hXQ.symm).grown G2 hXQ.symm
        have hR := (hR.grown G1 hXr.symm).grown G2 hXr.symm
        have hb := grown_below (grown_below hb G1 hwX) G2 hwX
        have hX := (hX.set 0 (.int .i64 t.epoch)).set 1 (.slice a3 t.chain.length cap3)
        change BlkAt _ X 24 [.int .i64 t.epoch, .slice a3 t.chain.length cap3] at hX
        clear G1 G2 hv
        have hv := hv0.below hb
        change Code.wp _ _ _ _ ((w20.setCell ⟨X, 0, none⟩ (.int .i64 t.epoch)).setCell ⟨X, 1, none⟩ (.slice a3 t.chain.length cap3))
        generalize (w20.setCell ⟨X, 0, none⟩ (.int .i64 t.epoch)).setCell ⟨X, 1, none⟩ (.slice a3 t.chain.length cap3) = w21 at *
        have hO : RfOn w21 Q l l 0 := ⟨0, Nat.zero_le _, rfl, hQ⟩
        have HQB := Lib.hid hQ
        clear hQ
        go_wp2_with fail
        refine (qctake_at (by exact hO) (by omega) HTK.out).mono ?_
        rintro en w22 ⟨v4, l4, e4, rfl, hv4, hO, hk4, hg⟩
        obtain ⟨a4, cap4, rfl, hs4⟩ := hv4
        have hv4 : ChainAt w22 (.slice a4 t.chain.length cap4) t.chain := ⟨a4, cap4, rfl, hs4⟩
        have hC := hC.grown hg hCq
        have hX := hX.grown hg hXQ
        have hY := hY.grown hg hYq
        have hR := hR.grown hg hrQ
        have hv3 := hv3.grownQ HQB.out (by intro i z; match i with | 0 => simp | 1 => simp | 2 => simp | _ + 3 => simp) hg
        have hb1 := hb.size
        have hb := grown_below hb hg hwQ
        clear hs4 hO hk4 hv
        have hYX : Y ≠ X := hXY.symm
        have fhY0 : w22.cell? ⟨Y, 0, none⟩ = some (.int .i64 c.epoch) := hY.cell rfl
        have fhY1 : w22.cell? ⟨Y, 1, none⟩ = some (.slice a2 c.chain.length cap2) := hY.cell rfl
        have hf := hY.free
        go_upto_region 10 with (fail)
        clear fhY0 fhY1
        clear hf
        have hY0 := hY
        have hv4 := (hv4.set2 hY 0 (.int .i64 t.epoch)).set2 (hY.set 0 (.int .i64 t.epoch)) 1 (.slice a4 t.chain.length cap4)
        have G1 := grown_setCell w22 Y 0 (.int .i64 t.epoch)
        have G2 := grown_setCell (w22.setCell ⟨Y, 0, none⟩ (.int .i64 t.epoch)) Y 1 (.slice a4 t.chain.length cap4)
        have hYC : w.heap.size ≠ Y := by omega
        have hwY : w.heap.size ≤ Y := by omega
        have hC := (hC.grown G1 hYC).grown G2 hYC
        have hX := (hX.grown G1 hXY).grown G2 hXY
        have hR := (hR.grown G1 hYr.symm).grown G2 hYr.symm
        have hb := grown_below (grown_below hb G1 hwY) G2 hwY
        have hY := (hY.set 0 (.int .i64 t.epoch)).set 1 (.slice a4 t.chain.length cap4)
        change BlkAt _ Y 24 [.int .i64 t.epoch, .slice a4 t.chain.length cap4] at hY
        have hv3 := (hv3.set2 hY0 0 (.int .i64 t.epoch)).set2 (hY0.set 0 (.int .i64 t.epoch)) 1 (.slice a4 t.chain.length cap4)
        clear G1 G2
        have hv := hv0.below hb
        change Code.wp _ _ _ _ ((w22.setCell ⟨Y, 0, none⟩ (.int .i64 t.epoch)).setCell ⟨Y, 1, none⟩ (.slice a4 t.chain.length cap4))
        generalize (w22.setCell ⟨Y, 0, none⟩ (.int .i64 t.epoch)).setCell ⟨Y, 1, none⟩ (.slice a4 t.chain.length cap4) = w23 at *
        go_cut [8, 79] (fun s8 s wx => (∃ z : Bool, s8 = .bool z) ∧ s = .bool false ∧ BlkAt wx w.heap.size 24 [.int .i64 e, .slice a L.length cap] ∧ Below w.heap.size w wx)
        case first =>
          have fhX0 : w23.cell? ⟨X, 0, none⟩ = some (.int .i64 t.epoch) := hX.cell rfl
          have fhX1 : w23.cell? ⟨X, 1, none⟩ = some (.slice a3 t.chain.length cap3) := hX.cell rfl
          have fhY0 : w23.cell? ⟨Y, 0, none⟩ = some (.int .i64 t.epoch) := hY.cell rfl
          have fhY1 : w23.cell? ⟨Y, 1, none⟩ = some (.slice a4 t.chain.length cap4) := hY.cell rfl
          go_wp2_with fail
          refine (qcsame_at (by exact hv3) (by exact hv4) (sameC_self t)).mono ?_
          rintro en w24 ⟨rfl, b24⟩
          have hC := BlkAt.below (by exact hC) b24
          have hX := BlkAt.below (by exact hX) b24
          have hY := BlkAt.below (by exact hY) b24
          have hv := hv.below b24
          have hR := hR.below b24
          have hb := below_step hb b24
          clear fhX0 fhX1 fhY0 fhY1 b24
          by_cases h0 : te = 0
          · subst h0
            go_wp2_with fail
            refine (err_any (by exact hR)).mono ?_
            rintro en w25 ⟨rfl, rfl⟩
            go_wp2_with fail
            go_meet
            exact ⟨⟨_, rfl⟩, rfl, hC, hb⟩
          · have h0' : (te == 0) = false := by simpa using h0
            rw [h0']
            go_wp2_with fail
            refine (err_any (by exact hR)).mono ?_
            rintro en w25 ⟨rfl, rfl⟩
            go_wp2_with fail
            go_meet
            exact ⟨⟨_, rfl⟩, rfl, hC, hb⟩
        case rest =>
          obtain ⟨⟨z8, rfl⟩, rfl, hC, hb⟩ := hcut
          have hv := hv0.below hb
          clear hX hY hR hv3 hv4
          cases hr : rightC ⟨e, L⟩ with
          | false =>
            have HPR := Lib.hid (show printC ⟨e, L⟩ = ([], 1) by rw [printC, if_neg (by rw [hr]; simp)])
            have HR := Lib.hid hr
            clear hr
            have fhC0 : wc.cell? ⟨w.heap.size, 0, none⟩ = some (.int .i64 e) := hC.cell rfl
            have fhC1 : wc.cell? ⟨w.heap.size, 1, none⟩ = some (.slice a L.length cap) := hC.cell rfl
            go_wp2_with fail
            refine (cprint_at (by exact hv) HPR.out).mono ?_
            rintro en w31 ⟨rfl, b31⟩
            have hC := BlkAt.below (by exact hC) b31
            have hv := hv.below b31
            have hb := below_step hb b31
            clear fhC0 fhC1 b31
            have fhC0 : w31.cell? ⟨w.heap.size, 0, none⟩ = some (.int .i64 e) := hC.cell rfl
            have fhC1 : w31.cell? ⟨w.heap.size, 1, none⟩ = some (.slice a L.length cap) := hC.cell rfl
            go_wp2_with fail
            refine (qcright_at (by exact hv) HR.out).mono ?_
            rintro en w32 ⟨rfl, b32⟩
            have hC := BlkAt.below (by exact hC) b32
            have hv := hv.below b32
            have hb := below_step hb b32
            clear fhC0 fhC1 b32
            go_wp2_with fail
            go_ret
            exact ⟨rfl, hb⟩
          | true =>
            have HPR := Lib.hid (show printC ⟨e, L⟩ = (encConf ⟨e, L⟩, 0) by rw [printC, if_pos hr])
            have HR := Lib.hid hr
            have HRE := Lib.hid (readC_enc hr)
            have hel := encConf_len ⟨e, L⟩
            simp only at hel
            clear hr
            have fhC0 : wc.cell? ⟨w.heap.size, 0, none⟩ = some (.int .i64 e) := hC.cell rfl
            have fhC1 : wc.cell? ⟨w.heap.size, 1, none⟩ = some (.slice a L.length cap) := hC.cell rfl
            go_wp2_with fail
            refine (cprint_at (by exact hv) HPR.out).mono ?_
            rintro en w31 ⟨rfl, b31⟩
            have hC := BlkAt.below (by exact hC) b31
            have hv := hv.below b31
            have hb := below_step hb b31
            clear fhC0 fhC1 b31
            have fhC0 : w31.cell? ⟨w.heap.size, 0, none⟩ = some (.int .i64 e) := hC.cell rfl
            have fhC1 : w31.cell? ⟨w.heap.size, 1, none⟩ = some (.slice a L.length cap) := hC.cell rfl
            go_wp2_with fail
            refine (qcright_at (by exact hv) HR.out).mono ?_
            rintro en w32 ⟨rfl, b32⟩
            have hC := BlkAt.below (by exact hC) b32
            have hv := hv.below b32
            have hb := below_step hb b32
            clear fhC0 fhC1 b32
            go_wp2_with fail
            refine (cread_is (by omega) HRE.out (x := 0) rfl _).mono ?_
            rintro en w33 ⟨a5, cap5, rfl, hv5, b33⟩
            have hC := BlkAt.below (by exact hC) b33
            have hv := hv.below b33
            have hb := below_step hb b33
            clear b33
            go_upto_region 16 with (fail)
            have hZ := BlkAt.new w33 24 [.int .i64 e, .slice a5 L.length cap5]
            have hC := hC.alloc (.cells #[.int .i64 e, .slice a5 L.length cap5] 24)
            have hv := hv.alloc (.cells #[.int .i64 e, .slice a5 L.length cap5] 24)
            have hv5 := hv5.alloc (.cells #[.int .i64 e, .slice a5 L.length cap5] 24)
            have hb := hb.alloc hb.size (.cells #[.int .i64 e, .slice a5 L.length cap5] 24)
            change Code.wp _ _ _ _ (w33.alloc (.cells #[.int .i64 e, .slice a5 L.length cap5] 24))
            change BlkAt (w33.alloc (.cells #[.int .i64 e, .slice a5 L.length cap5] 24)) _ _ _ at hZ
            generalize w33.alloc (.cells #[.int .i64 e, .slice a5 L.length cap5] 24) = v33_1 at *
            generalize w33.heap.size = Z at *
            have fhC0 : v33_1.cell? ⟨w.heap.size, 0, none⟩ = some (.int .i64 e) := hC.cell rfl
            have fhC1 : v33_1.cell? ⟨w.heap.size, 1, none⟩ = some (.slice a L.length cap) := hC.cell rfl
            go_wp2_with fail
            refine (qcprint_any (by exact hv) e (by omega)).mono ?_
            rintro en w34 ⟨rfl, b34⟩
            have hC := BlkAt.below (by exact hC) b34
            have hZ := BlkAt.below (by exact hZ) b34
            have hv := hv.below b34
            have hv5 := hv5.below b34
            have hb := below_step hb b34
            clear fhC0 fhC1 b34
            have fhC0 : w34.cell? ⟨w.heap.size, 0, none⟩ = some (.int .i64 e) := hC.cell rfl
            have fhC1 : w34.cell? ⟨w.heap.size, 1, none⟩ = some (.slice a L.length cap) := hC.cell rfl
            go_wp2_with fail
            refine (cput_any (by exact hv) e (by omega)).mono ?_
            rintro en w35 ⟨rfl, b35⟩
            have hC := BlkAt.below (by exact hC) b35
            have hZ := BlkAt.below (by exact hZ) b35
            have hv := hv.below b35
            have hv5 := hv5.below b35
            have hb := below_step hb b35
            clear fhC0 fhC1 b35
            have fhZ0 : w35.cell? ⟨Z, 0, none⟩ = some (.int .i64 e) := hZ.cell rfl
            have fhZ1 : w35.cell? ⟨Z, 1, none⟩ = some (.slice a5 L.length cap5) := hZ.cell rfl
            have fhC0 : w35.cell? ⟨w.heap.size, 0, none⟩ = some (.int .i64 e) := hC.cell rfl
            have fhC1 : w35.cell? ⟨w.heap.size, 1, none⟩ = some (.slice a L.length cap) := hC.cell rfl
            go_wp2_with fail
            refine (qcsame_at (by exact hv5) (by exact hv) (sameC_self ⟨e, L⟩)).mono ?_
            rintro en w36 ⟨rfl, b36⟩
            have hC := BlkAt.below (by exact hC) b36
            have hZ := BlkAt.below (by exact hZ) b36
            have hv := hv.below b36
            have hv5 := hv5.below b36
            have hb := below_step hb b36
            clear fhZ0 fhZ1 fhC0 fhC1 b36
            go_wp2_with fail
            go_ret
            exact ⟨rfl, hb⟩
      | false =>
        go_wp2_with fail
        refine (cread_is (by omega) HRD.out (x := 3) rfl _).mono ?_
        rintro en w3 ⟨a1, cap1, rfl, hv1, b3⟩
        have hC := BlkAt.below (by exact hC) b3
        have hv := hv.below b3
        have hb := below_step hb b3
        clear b3
        go_upto_region 4 with (fail)
        have lt_hC_hX : w.heap.size < w3.heap.size := hC.lt
        have hX := BlkAt.new w3 24 [.int .i64 c.epoch, .slice a1 c.chain.length cap1]
        have hC := hC.alloc (.cells #[.int .i64 c.epoch, .slice a1 c.chain.length cap1] 24)
        have hv := hv.alloc (.cells #[.int .i64 c.epoch, .slice a1 c.chain.length cap1] 24)
        have hv1 := hv1.alloc (.cells #[.int .i64 c.epoch, .slice a1 c.chain.length cap1] 24)
        have hb := hb.alloc hb.size (.cells #[.int .i64 c.epoch, .slice a1 c.chain.length cap1] 24)
        change Code.wp _ _ _ _ (w3.alloc (.cells #[.int .i64 c.epoch, .slice a1 c.chain.length cap1] 24))
        change BlkAt (w3.alloc (.cells #[.int .i64 c.epoch, .slice a1 c.chain.length cap1] 24)) _ _ _ at hX
        generalize w3.alloc (.cells #[.int .i64 c.epoch, .slice a1 c.chain.length cap1] 24) = v3_1 at *
        generalize w3.heap.size = X at *
        go_wp2_with fail
        refine (qcread_is (by omega) HRD.out _).mono ?_
        rintro en w4 ⟨a2, cap2, rfl, hv2, b4⟩
        have hC := BlkAt.below (by exact hC) b4
        have hX := BlkAt.below (by exact hX) b4
        have hv := hv.below b4
        have hv1 := hv1.below b4
        have hb := below_step hb b4
        clear b4
        go_upto_region 5 with (fail)
        have lt_hC_hY : w.heap.size < w4.heap.size := hC.lt
        have lt_hX_hY : X < w4.heap.size := hX.lt
        have hY := BlkAt.new w4 24 [.int .i64 c.epoch, .slice a2 c.chain.length cap2]
        have hC := hC.alloc (.cells #[.int .i64 c.epoch, .slice a2 c.chain.length cap2] 24)
        have hX := hX.alloc (.cells #[.int .i64 c.epoch, .slice a2 c.chain.length cap2] 24)
        have hv := hv.alloc (.cells #[.int .i64 c.epoch, .slice a2 c.chain.length cap2] 24)
        have hv1 := hv1.alloc (.cells #[.int .i64 c.epoch, .slice a2 c.chain.length cap2] 24)
        have hv2 := hv2.alloc (.cells #[.int .i64 c.epoch, .slice a2 c.chain.length cap2] 24)
        have hb := hb.alloc hb.size (.cells #[.int .i64 c.epoch, .slice a2 c.chain.length cap2] 24)
        change Code.wp _ _ _ _ (w4.alloc (.cells #[.int .i64 c.epoch, .slice a2 c.chain.length cap2] 24))
        change BlkAt (w4.alloc (.cells #[.int .i64 c.epoch, .slice a2 c.chain.length cap2] 24)) _ _ _ at hY
        generalize w4.alloc (.cells #[.int .i64 c.epoch, .slice a2 c.chain.length cap2] 24) = v4_2 at *
        generalize w4.heap.size = Y at *
        have fhX0 : v4_2.cell? ⟨X, 0, none⟩ = some (.int .i64 c.epoch) := hX.cell rfl
        have fhX1 : v4_2.cell? ⟨X, 1, none⟩ = some (.slice a1 c.chain.length cap1) := hX.cell rfl
        have fhY0 : v4_2.cell? ⟨Y, 0, none⟩ = some (.int .i64 c.epoch) := hY.cell rfl
        have fhY1 : v4_2.cell? ⟨Y, 1, none⟩ = some (.slice a2 c.chain.length cap2) := hY.cell rfl
        go_wp2_with fail
        refine (qcsame_at (by exact hv1) (by exact hv2) (sameC_self c)).mono ?_
        rintro en w5 ⟨rfl, b5⟩
        have hC := BlkAt.below (by exact hC) b5
        have hX := BlkAt.below (by exact hX) b5
        have hY := BlkAt.below (by exact hY) b5
        have hv := hv.below b5
        have hv1 := hv1.below b5
        have hv2 := hv2.below b5
        have hb := below_step hb b5
        clear fhX0 fhX1 fhY0 fhY1 b5
        clear hv1 hv2
        have hCl := hC.lt
        have hXl := hX.lt
        have hYl := hY.lt
        have hbs := hb.size
        go_wp2_with fail
        refine (read_any l _).mono ?_
        rintro en w6 ⟨rb, rfl, hR, hrb, b6⟩
        have hC := BlkAt.below (by exact hC) b6
        have hX := BlkAt.below (by exact hX) b6
        have hY := BlkAt.below (by exact hY) b6
        have hv := hv.below b6
        have hb := below_step hb b6
        clear b6
        have hRl := hR.lt
        have hCr : w.heap.size ≠ rb := by omega
        have hXr : X ≠ rb := by omega
        have hYr : Y ≠ rb := by omega
        have hwr : w.heap.size ≤ rb := by omega
        clear hrb hCl hXl hYl hbs
        have hRs := hR.lt
        go_upto_region 8 with (fail)
        have lt_hC_hQ : w.heap.size < w6.heap.size := hC.lt
        have lt_hX_hQ : X < w6.heap.size := hX.lt
        have lt_hY_hQ : Y < w6.heap.size := hY.lt
        have hQ := BlkAt.new w6 64 [.string ⟨l.toArray⟩, .int .i64 0, .int .i64 0]
        have hC := hC.alloc (.cells #[.string ⟨l.toArray⟩, .int .i64 0, .int .i64 0] 64)
        have hX := hX.alloc (.cells #[.string ⟨l.toArray⟩, .int .i64 0, .int .i64 0] 64)
        have hY := hY.alloc (.cells #[.string ⟨l.toArray⟩, .int .i64 0, .int .i64 0] 64)
        have hv := hv.alloc (.cells #[.string ⟨l.toArray⟩, .int .i64 0, .int .i64 0] 64)
        have hR := hR.alloc (.cells #[.string ⟨l.toArray⟩, .int .i64 0, .int .i64 0] 64)
        have hb := hb.alloc hb.size (.cells #[.string ⟨l.toArray⟩, .int .i64 0, .int .i64 0] 64)
        change Code.wp _ _ _ _ (w6.alloc (.cells #[.string ⟨l.toArray⟩, .int .i64 0, .int .i64 0] 64))
        change BlkAt (w6.alloc (.cells #[.string ⟨l.toArray⟩, .int .i64 0, .int .i64 0] 64)) _ _ _ at hQ
        generalize w6.alloc (.cells #[.string ⟨l.toArray⟩, .int .i64 0, .int .i64 0] 64) = v6_3 at *
        generalize w6.heap.size = Q at *
        have hQr : Q ≠ rb := by omega
        have hrQ : rb ≠ Q := by omega
        go_wp2_with fail
        refine (ctake_at (by exact hR) (by omega) HTK.out).mono ?_
        rintro en w20 ⟨v3, rfl, hv3, hR, hg⟩
        obtain ⟨a3, cap3, rfl, hs3⟩ := hv3
        have hv3 : ChainAt w20 (.slice a3 t.chain.length cap3) t.chain := ⟨a3, cap3, rfl, hs3⟩
        have hC := hC.grown hg hCr
        have hX := hX.grown hg hXr
        have hY := hY.grown hg hYr
        have hQ := hQ.grown hg hQr
        have hb := grown_below hb hg hwr
        clear hg hs3 hv
        have hv := hv0.below hb
        have fhX0 : w20.cell? ⟨X, 0, none⟩ = some (.int .i64 c.epoch) := hX.cell rfl
        have fhX1 : w20.cell? ⟨X, 1, none⟩ = some (.slice a1 c.chain.length cap1) := hX.cell rfl
        have hf := hX.free
        go_upto_region 9 with (fail)
        clear fhX0 fhX1
        clear hf
        have hv3 := (hv3.set2 hX 0 (.int .i64 t.epoch)).set2 (hX.set 0 (.int .i64 t.epoch)) 1 (.slice a3 t.chain.length cap3)
        have hXQ : X ≠ Q := by omega
        have hXY : X ≠ Y := by omega
        have hXC : X ≠ w.heap.size := by omega
        have hCq : w.heap.size ≠ Q := by omega
        have hYq : Y ≠ Q := by omega
        have hwX : w.heap.size ≤ X := by omega
        have hwQ : w.heap.size ≤ Q := by omega
        have G1 := grown_setCell w20 X 0 (.int .i64 t.epoch)
        have G2 := grown_setCell (w20.setCell ⟨X, 0, none⟩ (.int .i64 t.epoch)) X 1 (.slice a3 t.chain.length cap3)
        have hC := (hC.grown G1 hXC.symm).grown G2 hXC.symm
        have hY := (hY.grown G1 hXY.symm).grown G2 hXY.symm
        have hQ := (hQ.grown G1 hXQ.symm).grown G2 hXQ.symm
        have hR := (hR.grown G1 hXr.symm).grown G2 hXr.symm
        have hb := grown_below (grown_below hb G1 hwX) G2 hwX
        have hX := (hX.set 0 (.int .i64 t.epoch)).set 1 (.slice a3 t.chain.length cap3)
        change BlkAt _ X 24 [.int .i64 t.epoch, .slice a3 t.chain.length cap3] at hX
        clear G1 G2 hv
        have hv := hv0.below hb
        change Code.wp _ _ _ _ ((w20.setCell ⟨X, 0, none⟩ (.int .i64 t.epoch)).setCell ⟨X, 1, none⟩ (.slice a3 t.chain.length cap3))
        generalize (w20.setCell ⟨X, 0, none⟩ (.int .i64 t.epoch)).setCell ⟨X, 1, none⟩ (.slice a3 t.chain.length cap3) = w21 at *
        have hO : RfOn w21 Q l l 0 := ⟨0, Nat.zero_le _, rfl, hQ⟩
        have HQB := Lib.hid hQ
        clear hQ
        go_wp2_with fail
        refine (qctake_at (by exact hO) (by omega) HTK.out).mono ?_
        rintro en w22 ⟨v4, l4, e4, rfl, hv4, hO, hk4, hg⟩
        obtain ⟨a4, cap4, rfl, hs4⟩ := hv4
        have hv4 : ChainAt w22 (.slice a4 t.chain.length cap4) t.chain := ⟨a4, cap4, rfl, hs4⟩
        have hC := hC.grown hg hCq
        have hX := hX.grown hg hXQ
        have hY := hY.grown hg hYq
        have hR := hR.grown hg hrQ
        have hv3 := hv3.grownQ HQB.out (by intro i z; match i with | 0 => simp | 1 => simp | 2 => simp | _ + 3 => simp) hg
        have hb1 := hb.size
        have hb := grown_below hb hg hwQ
        clear hs4 hO hk4 hv
        have hYX : Y ≠ X := hXY.symm
        have fhY0 : w22.cell? ⟨Y, 0, none⟩ = some (.int .i64 c.epoch) := hY.cell rfl
        have fhY1 : w22.cell? ⟨Y, 1, none⟩ = some (.slice a2 c.chain.length cap2) := hY.cell rfl
        have hf := hY.free
        go_upto_region 10 with (fail)
        clear fhY0 fhY1
        clear hf
        have hY0 := hY
        have hv4 := (hv4.set2 hY 0 (.int .i64 t.epoch)).set2 (hY.set 0 (.int .i64 t.epoch)) 1 (.slice a4 t.chain.length cap4)
        have G1 := grown_setCell w22 Y 0 (.int .i64 t.epoch)
        have G2 := grown_setCell (w22.setCell ⟨Y, 0, none⟩ (.int .i64 t.epoch)) Y 1 (.slice a4 t.chain.length cap4)
        have hYC : w.heap.size ≠ Y := by omega
        have hwY : w.heap.size ≤ Y := by omega
        have hC := (hC.grown G1 hYC).grown G2 hYC
        have hX := (hX.grown G1 hXY).grown G2 hXY
        have hR := (hR.grown G1 hYr.symm).grown G2 hYr.symm
        have hb := grown_below (grown_below hb G1 hwY) G2 hwY
        have hY := (hY.set 0 (.int .i64 t.epoch)).set 1 (.slice a4 t.chain.length cap4)
        change BlkAt _ Y 24 [.int .i64 t.epoch, .slice a4 t.chain.length cap4] at hY
        have hv3 := (hv3.set2 hY0 0 (.int .i64 t.epoch)).set2 (hY0.set 0 (.int .i64 t.epoch)) 1 (.slice a4 t.chain.length cap4)
        clear G1 G2
        have hv := hv0.below hb
        change Code.wp _ _ _ _ ((w22.setCell ⟨Y, 0, none⟩ (.int .i64 t.epoch)).setCell ⟨Y, 1, none⟩ (.slice a4 t.chain.length cap4))
        generalize (w22.setCell ⟨Y, 0, none⟩ (.int .i64 t.epoch)).setCell ⟨Y, 1, none⟩ (.slice a4 t.chain.length cap4) = w23 at *
        go_cut [8, 79] (fun s8 s wx => (∃ z : Bool, s8 = .bool z) ∧ s = .bool false ∧ BlkAt wx w.heap.size 24 [.int .i64 e, .slice a L.length cap] ∧ Below w.heap.size w wx)
        case first =>
          have fhX0 : w23.cell? ⟨X, 0, none⟩ = some (.int .i64 t.epoch) := hX.cell rfl
          have fhX1 : w23.cell? ⟨X, 1, none⟩ = some (.slice a3 t.chain.length cap3) := hX.cell rfl
          have fhY0 : w23.cell? ⟨Y, 0, none⟩ = some (.int .i64 t.epoch) := hY.cell rfl
          have fhY1 : w23.cell? ⟨Y, 1, none⟩ = some (.slice a4 t.chain.length cap4) := hY.cell rfl
          go_wp2_with fail
          refine (qcsame_at (by exact hv3) (by exact hv4) (sameC_self t)).mono ?_
          rintro en w24 ⟨rfl, b24⟩
          have hC := BlkAt.below (by exact hC) b24
          have hX := BlkAt.below (by exact hX) b24
          have hY := BlkAt.below (by exact hY) b24
          have hv := hv.below b24
          have hR := hR.below b24
          have hb := below_step hb b24
          clear fhX0 fhX1 fhY0 fhY1 b24
          by_cases h0 : te = 0
          · subst h0
            go_wp2_with fail
            refine (err_any (by exact hR)).mono ?_
            rintro en w25 ⟨rfl, rfl⟩
            go_wp2_with fail
            go_meet
            exact ⟨⟨_, rfl⟩, rfl, hC, hb⟩
          · have h0' : (te == 0) = false := by simpa using h0
            rw [h0']
            go_wp2_with fail
            refine (err_any (by exact hR)).mono ?_
            rintro en w25 ⟨rfl, rfl⟩
            go_wp2_with fail
            go_meet
            exact ⟨⟨_, rfl⟩, rfl, hC, hb⟩
        case rest =>
          obtain ⟨⟨z8, rfl⟩, rfl, hC, hb⟩ := hcut
          have hv := hv0.below hb
          clear hX hY hR hv3 hv4
          cases hr : rightC ⟨e, L⟩ with
          | false =>
            have HPR := Lib.hid (show printC ⟨e, L⟩ = ([], 1) by rw [printC, if_neg (by rw [hr]; simp)])
            have HR := Lib.hid hr
            clear hr
            have fhC0 : wc.cell? ⟨w.heap.size, 0, none⟩ = some (.int .i64 e) := hC.cell rfl
            have fhC1 : wc.cell? ⟨w.heap.size, 1, none⟩ = some (.slice a L.length cap) := hC.cell rfl
            go_wp2_with fail
            refine (cprint_at (by exact hv) HPR.out).mono ?_
            rintro en w31 ⟨rfl, b31⟩
            have hC := BlkAt.below (by exact hC) b31
            have hv := hv.below b31
            have hb := below_step hb b31
            clear fhC0 fhC1 b31
            have fhC0 : w31.cell? ⟨w.heap.size, 0, none⟩ = some (.int .i64 e) := hC.cell rfl
            have fhC1 : w31.cell? ⟨w.heap.size, 1, none⟩ = some (.slice a L.length cap) := hC.cell rfl
            go_wp2_with fail
            refine (qcright_at (by exact hv) HR.out).mono ?_
            rintro en w32 ⟨rfl, b32⟩
            have hC := BlkAt.below (by exact hC) b32
            have hv := hv.below b32
            have hb := below_step hb b32
            clear fhC0 fhC1 b32
            go_wp2_with fail
            go_ret
            exact ⟨rfl, hb⟩
          | true =>
            have HPR := Lib.hid (show printC ⟨e, L⟩ = (encConf ⟨e, L⟩, 0) by rw [printC, if_pos hr])
            have HR := Lib.hid hr
            have HRE := Lib.hid (readC_enc hr)
            have hel := encConf_len ⟨e, L⟩
            simp only at hel
            clear hr
            have fhC0 : wc.cell? ⟨w.heap.size, 0, none⟩ = some (.int .i64 e) := hC.cell rfl
            have fhC1 : wc.cell? ⟨w.heap.size, 1, none⟩ = some (.slice a L.length cap) := hC.cell rfl
            go_wp2_with fail
            refine (cprint_at (by exact hv) HPR.out).mono ?_
            rintro en w31 ⟨rfl, b31⟩
            have hC := BlkAt.below (by exact hC) b31
            have hv := hv.below b31
            have hb := below_step hb b31
            clear fhC0 fhC1 b31
            have fhC0 : w31.cell? ⟨w.heap.size, 0, none⟩ = some (.int .i64 e) := hC.cell rfl
            have fhC1 : w31.cell? ⟨w.heap.size, 1, none⟩ = some (.slice a L.length cap) := hC.cell rfl
            go_wp2_with fail
            refine (qcright_at (by exact hv) HR.out).mono ?_
            rintro en w32 ⟨rfl, b32⟩
            have hC := BlkAt.below (by exact hC) b32
            have hv := hv.below b32
            have hb := below_step hb b32
            clear fhC0 fhC1 b32
            go_wp2_with fail
            refine (cread_is (by omega) HRE.out (x := 0) rfl _).mono ?_
            rintro en w33 ⟨a5, cap5, rfl, hv5, b33⟩
            have hC := BlkAt.below (by exact hC) b33
            have hv := hv.below b33
            have hb := below_step hb b33
            clear b33
            go_upto_region 16 with (fail)
            have hZ := BlkAt.new w33 24 [.int .i64 e, .slice a5 L.length cap5]
            have hC := hC.alloc (.cells #[.int .i64 e, .slice a5 L.length cap5] 24)
            have hv := hv.alloc (.cells #[.int .i64 e, .slice a5 L.length cap5] 24)
            have hv5 := hv5.alloc (.cells #[.int .i64 e, .slice a5 L.length cap5] 24)
            have hb := hb.alloc hb.size (.cells #[.int .i64 e, .slice a5 L.length cap5] 24)
            change Code.wp _ _ _ _ (w33.alloc (.cells #[.int .i64 e, .slice a5 L.length cap5] 24))
            change BlkAt (w33.alloc (.cells #[.int .i64 e, .slice a5 L.length cap5] 24)) _ _ _ at hZ
            generalize w33.alloc (.cells #[.int .i64 e, .slice a5 L.length cap5] 24) = v33_1 at *
            generalize w33.heap.size = Z at *
            have fhC0 : v33_1.cell? ⟨w.heap.size, 0, none⟩ = some (.int .i64 e) := hC.cell rfl
            have fhC1 : v33_1.cell? ⟨w.heap.size, 1, none⟩ = some (.slice a L.length cap) := hC.cell rfl
            go_wp2_with fail
            refine (qcprint_any (by exact hv) e (by omega)).mono ?_
            rintro en w34 ⟨rfl, b34⟩
            have hC := BlkAt.below (by exact hC) b34
            have hZ := BlkAt.below (by exact hZ) b34
            have hv := hv.below b34
            have hv5 := hv5.below b34
            have hb := below_step hb b34
            clear fhC0 fhC1 b34
            have fhC0 : w34.cell? ⟨w.heap.size, 0, none⟩ = some (.int .i64 e) := hC.cell rfl
            have fhC1 : w34.cell? ⟨w.heap.size, 1, none⟩ = some (.slice a L.length cap) := hC.cell rfl
            go_wp2_with fail
            refine (cput_any (by exact hv) e (by omega)).mono ?_
            rintro en w35 ⟨rfl, b35⟩
            have hC := BlkAt.below (by exact hC) b35
            have hZ := BlkAt.below (by exact hZ) b35
            have hv := hv.below b35
            have hv5 := hv5.below b35
            have hb := below_step hb b35
            clear fhC0 fhC1 b35
            have fhZ0 : w35.cell? ⟨Z, 0, none⟩ = some (.int .i64 e) := hZ.cell rfl
            have fhZ1 : w35.cell? ⟨Z, 1, none⟩ = some (.slice a5 L.length cap5) := hZ.cell rfl
            have fhC0 : w35.cell? ⟨w.heap.size, 0, none⟩ = some (.int .i64 e) := hC.cell rfl
            have fhC1 : w35.cell? ⟨w.heap.size, 1, none⟩ = some (.slice a L.length cap) := hC.cell rfl
            go_wp2_with fail
            refine (qcsame_at (by exact hv5) (by exact hv) (sameC_self ⟨e, L⟩)).mono ?_
            rintro en w36 ⟨rfl, b36⟩
            have hC := BlkAt.below (by exact hC) b36
            have hZ := BlkAt.below (by exact hZ) b36
            have hv := hv.below b36
            have hv5 := hv5.below b36
            have hb := below_step hb b36
            clear fhZ0 fhZ1 fhC0 fhC1 b36
            go_wp2_with fail
            go_ret
            exact ⟨rfl, hb⟩
    · have h5' : (500 : Int) < (l.length : Int) := by omega
      go_wp2_with fail
      refine (awake_any _).mono ?_
      rintro en w3 ⟨rfl, b3⟩
      have hC := BlkAt.below (by exact hC) b3
      have hv := hv.below b3
      have hb := below_step hb b3
      clear b3
      go_wp2_with fail
      go_ret
      exact ⟨rfl, hb⟩
  · have hfd : decide (L.length ≤ 40) = false := by simpa using hf
    have HF := Lib.hid hfd
    clear hfd
    have fhC0 : w1.cell? ⟨w.heap.size, 0, none⟩ = some (.int .i64 e) := hC.cell rfl
    have fhC1 : w1.cell? ⟨w.heap.size, 1, none⟩ = some (.slice a L.length cap) := hC.cell rfl
    go_wp2_with fail
    refine (few_one (by exact BlkAt.new _ 24 [.int .i64 e, .slice a L.length cap]) (by exact hv.alloc _)).mono ?_
    rintro en w2 ⟨rfl, b2⟩
    have hC := BlkAt.below (by exact hC.alloc (.cells #[.int .i64 e, .slice a L.length cap] 24)) b2
    have hv := (hv.alloc (.cells #[.int .i64 e, .slice a L.length cap] 24)).below b2
    have hb := below_step (hb.alloc hb.size (.cells #[.int .i64 e, .slice a L.length cap] 24)) b2
    clear fhC0 fhC1 b2
    rw [HF.out]
    go_wp2_with fail
    refine (awake_any _).mono ?_
    rintro en w3 ⟨rfl, b3⟩
    have hC := BlkAt.below (by exact hC) b3
    have hv := hv.below b3
    have hb := below_step hb b3
    clear b3
    go_wp2_with fail
    go_ret
    exact ⟨rfl, hb⟩

set_option maxRecDepth 100000 in
theorem ConfigBytes_walk {H : Type} {enc : TypeId × Value → H} {base : Nat} {d : DataW H} {p : List MemPlace} (v : Value) (s : ByteArray) (w : World) (hv : Value.okWide Try.prog w .any base 24 v) (ht : DataW.Trod enc Try.prog w 0 (fun _ => true) true 24 v d p) (hs : s.size ≤ maxLen) :
    Calls Try.prog 9 #[v, .string s] w fun e w' => e = .returned (.bool true) ∧ Below w.heap.size w w' := by
  obtain ⟨e, a, cap, L, he, hc, rfl⟩ := open_conf hv ht
  obtain ⟨l, rfl, hl⟩ := str_list s
  exact ConfigBytes_go hc l (by rw [← hl]; exact hs)


set_option maxRecDepth 100000 in
theorem ConfigBytes_calls (H : Type) (enc : TypeId × Value → H) (W : World) (base : Nat) (args : Array Value) (ds gs : List (DataW H)) (before : List MemPlace)
    (hval : ∀ (j : Nat) t v, Try.f9.params[j]? = some t → args[j]? = some v → Value.okWide Try.prog W .any base t v)
    (hW : DataW.Whole enc Try.prog Try.f9.params.toList Rows.configBytesSpec.vars false W args.toList ds gs before) :
    Calls Try.prog 9 args W fun e W' => e = .returned (.bool true) ∧ Below W.heap.size W W' := by
  obtain ⟨p, q, hA, hV, rfl, hfz, hnd⟩ := hW
  rw [Try.params9] at hA hval
  obtain ⟨v0, vs0, d0, ds0, p0, q0, hargs, rfl, rfl, h0, r0⟩ := trodAll_cons hA
  obtain ⟨v1, vs1, d1, ds1, p1, q1, rfl, rfl, rfl, h1, r1⟩ := trodAll_cons r0
  obtain ⟨rfl, rfl, rfl⟩ := trodAll_nil r1
  obtain rfl : args = #[v0, v1] := Array.toList_inj.1 hargs
  obtain ⟨x1, rfl, rfl, rfl, w1⟩ := open_string Try.underlying9 (hval 1 9 v1 rfl rfl) h1
  exact ConfigBytes_walk v0 x1 W (hval 0 24 v0 rfl rfl) h0 w1

set_option maxRecDepth 100000 in
theorem ConfigBytes_lifted (os : Os) (started : os.Started) (H : Type) (enc : TypeId × Value → H) :
    ReturnsInHanded {} Try.checked os 9 .any (Rows.configBytesSpec.pre6 enc Try.prog Try.f9 Rows.configBytesRow.domain false) (Rows.configBytesSpec.post enc Try.prog Try.f9 false true false false) := by
  refine returnsInHanded_of_change (C := Try.checked) own started (by kernel_rfl) Try.func9
    (ChangeSpec.witness6 (enc := enc) (C := Try.checked) false ⟨#[], #[.agg #[.int .i64 0, .slice none 0 0], .string ByteArray.empty], []⟩ 8 (by kernel_rfl) (by kernel_rfl) (by kernel_rfl) (by kernel_rfl)) ?_
  intro W base args ds gs before hval0 hW hcnd _
  have hval : ∀ (j : Nat) t v, Try.f9.params[j]? = some t → args[j]? = some v → Value.okWide Try.prog W .any base t v := hval0
  refine (ConfigBytes_calls H enc W base args ds gs before hval hW).mono fun e W' ⟨he, bel⟩ => ?_
  exact ⟨_, he, law_post (ts := [24, 9]) (by rw [Try.params9]) (by intro t ht; simp only [List.mem_cons, List.not_mem_nil, or_false] at ht; rcases ht with rfl | rfl <;> exact ⟨by kernel_rfl, of_decide_eq_true (by kernel_rfl)⟩) hW rfl
    (fun ds h => by match ds, h with | [_, _], _ => rfl) (by kernel_rfl) bel⟩

theorem ConfigBytes_over : Rows.configBytesRow.holds Try.pinned (OpenSpec.ofChange Rows.configBytesSpec) :=
  OpenClaim.holds_of_wide 9 Try.f9 rfl rfl rfl rfl rfl rfl rfl ⟨rfl, rfl, rfl, rfl, rfl⟩ rfl rfl rfl rfl rfl (by kernel_rfl) Try.func9 (by kernel_rfl)
    (of_decide_eq_true (by kernel_rfl)) (by unfold Func.isWrapper; first | (rw [if_pos (by decide +kernel)]; kernel_rfl) | (rw [if_neg (by decide +kernel)]; exact ⟨rfl, rfl⟩))
    (fun os started H enc _ => ConfigBytes_lifted os started H enc)

/-- The statement. -/
theorem ConfigBytes_proved : Rows.ConfigBytesSaid := ConfigBytes_over

end Go.Proofs.Ytofdmdpnobhnlaa
