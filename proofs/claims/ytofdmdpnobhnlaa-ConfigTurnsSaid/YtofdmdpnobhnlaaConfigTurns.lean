/- ConfigTurns: for every chain, every row of members and every member the law answers true. No condition. -/
import Derived.Test.YtofdmdpnobhnlaaCfgGone
import Derived.Deep.DeepCutAuto
import Derived.Test.YtofdmdpnobhnlaaConfigBytes
import Derived.Deep.RegionHeld3
namespace Go.Proofs.Ytofdmdpnobhnlaa
open Go.RowKit Go.ChangeShapes Go.WideShapes Go.Joins Go.Deep
set_option linter.unusedVariables false

set_option maxRecDepth 100000 in
set_option maxHeartbeats 4000000 in

theorem ConfigTurns_go {w : World} {e x y : Int} {a ag : Option Addr} {cap cag : Nat} {L : List SeatV} {G : List (Int × Int)} (hv : ChainAt w (.slice a L.length cap) L) (hg : MemsV w (.slice ag G.length cag) G) (hGl : G.length ≤ maxLen) (hx : W64 x) (hy : W64 y) :
    Calls Try.prog 3 #[.agg #[.int .i64 e, .slice a L.length cap], .slice ag G.length cag, .agg #[.int .i64 x, .int .i64 y]] w fun e w' => e = .returned (.bool true) ∧ Below w.heap.size w w' := by
  have hv0 := hv
  have hg0 := hg
  unfold maxLen at hGl
  have hlen : L.length ≤ 9223372036854775807 := by
    obtain ⟨_, _, h, hs⟩ := hv
    cases h
    exact hs.1
  clear hg
  go_enter Try.func3, Try.ntmps3
  go_upto_region 1 with (fail)
  have hC : BlkAt ((w.alloc (.cells #[.int .i64 e, .slice a L.length cap] 24)).alloc (.cells #[.int .i64 x, .int .i64 y] 27)) w.heap.size 24 [.int .i64 e, .slice a L.length cap] := (BlkAt.new w 24 [.int .i64 e, .slice a L.length cap]).alloc _
  have hM : BlkAt ((w.alloc (.cells #[.int .i64 e, .slice a L.length cap] 24)).alloc (.cells #[.int .i64 x, .int .i64 y] 27)) (w.heap.size + 1) 27 [.int .i64 x, .int .i64 y] := BlkAt.newAt (by simp) 27 [.int .i64 x, .int .i64 y]
  have hb : Below w.heap.size w ((w.alloc (.cells #[.int .i64 e, .slice a L.length cap] 24)).alloc (.cells #[.int .i64 x, .int .i64 y] 27)) := ((Below.refl w.heap.size w).alloc (Nat.le_refl _) _).alloc (by simp) _
  have hWs : w.heap.size + 2 ≤ ((w.alloc (.cells #[.int .i64 e, .slice a L.length cap] 24)).alloc (.cells #[.int .i64 x, .int .i64 y] 27)).heap.size := by simp
  have hv := hv.below hb
  change Code.wp _ _ _ _ ((w.alloc (.cells #[.int .i64 e, .slice a L.length cap] 24)).alloc (.cells #[.int .i64 x, .int .i64 y] 27))
  generalize (w.alloc (.cells #[.int .i64 e, .slice a L.length cap] 24)).alloc (.cells #[.int .i64 x, .int .i64 y] 27) = W at *
  have hM0n : w.heap.size ≤ w.heap.size + 1 := by omega
  have hM0b : w.heap.size + 1 < w.heap.size + 2 := by omega
  have hM00 : w.heap.size + 1 ≠ w.heap.size := by omega
  generalize hM0d : w.heap.size + 1 = M0 at *
  clear hWs
  go_wp2_with fail
  refine (awake_any _).mono ?_
  rintro en w1 ⟨rfl, b1⟩
  have hC := BlkAt.below (by exact hC) b1
  have hM := BlkAt.below (by exact hM) b1
  have hv := hv.below b1
  have hb := below_step hb b1
  clear b1
  by_cases hf : L.length ≤ 40
  · have hfd : decide (L.length ≤ 40) = true := by simpa using hf
    have HF := Lib.hid hfd
    clear hfd
    have fhC0 : w1.cell? ⟨w.heap.size, 0, none⟩ = some (.int .i64 e) := hC.cell rfl
    have fhC1 : w1.cell? ⟨w.heap.size, 1, none⟩ = some (.slice a L.length cap) := hC.cell rfl
    go_wp2_with fail
    refine (few_one (by exact BlkAt.new _ 24 [.int .i64 e, .slice a L.length cap]) (by exact hv.alloc _)).mono ?_
    rintro en w2 ⟨rfl, b2⟩
    have hC := BlkAt.below (by exact hC.alloc (.cells #[.int .i64 e, .slice a L.length cap] 24)) b2
    have hM := BlkAt.below (by exact hM.alloc (.cells #[.int .i64 e, .slice a L.length cap] 24)) b2
    have hv := (hv.alloc (.cells #[.int .i64 e, .slice a L.length cap] 24)).below b2
    have hb := below_step (hb.alloc hb.size (.cells #[.int .i64 e, .slice a L.length cap] 24)) b2
    clear fhC0 fhC1 b2
    rw [HF.out]
    by_cases h4 : G.length ≤ 40
    · have h4' : ¬ (40 : Int) < (G.length : Int) := by omega
      obtain ⟨pe, pL, px, hP⟩ := conf_parts (withoutC ⟨e, L⟩ G)
      have HW := Lib.hid hP
      clear hP
      have hWs : w.heap.size + 2 ≤ w2.heap.size := by have := hM.lt; omega
      go_upto_region 3 with (fail)
      have fC0 : w2.cell? ⟨w.heap.size, 0, none⟩ = some (.int .i64 e) := hC.cell rfl
      have fC1 : w2.cell? ⟨w.heap.size, 1, none⟩ = some (.slice a L.length cap) := hC.cell rfl
      go_cut [7, 8] (fun s7 s8 wx => ∃ (X : Nat) (a2 : Option Addr) (cap2 : Nat), s7 = .pointer (some ⟨X, 0, none⟩) ∧ s8 = .int .i64 px ∧ BlkAt wx X 24 [.int .i64 pe, .slice a2 pL.length cap2] ∧ ChainAt wx (.slice a2 pL.length cap2) pL ∧ BlkAt wx w.heap.size 24 [.int .i64 e, .slice a L.length cap] ∧ BlkAt wx M0 27 [.int .i64 x, .int .i64 y] ∧ Below w.heap.size w wx ∧ w.heap.size + 2 ≤ X)
      case first =>
        go_region_held3 (fun w' => w'.cell? ⟨w.heap.size, 0, none⟩ = some (.int .i64 e) ∧ w'.cell? ⟨w.heap.size, 1, none⟩ = some (.slice a L.length cap))
          (first | exact ⟨fC0, fC1⟩ | exact ⟨(hC.alloc _).cell rfl, (hC.alloc _).cell rfl⟩ | exact ⟨((hC.alloc _).alloc _).cell rfl, ((hC.alloc _).alloc _).cell rfl⟩ | exact ⟨((hC.grown (grown_setCell _ _ 0 _) (by omega)).grown (grown_setCell _ _ 1 _) (by omega)).cell rfl, ((hC.grown (grown_setCell _ _ 0 _) (by omega)).grown (grown_setCell _ _ 1 _) (by omega)).cell rfl⟩ | go_keep)
          (first
          | (have hb1 := hb.alloc hb.size (.cells #[] 27); have hb1 := hb1.drew; refine step_append_mems (by rfl) _ _ (by rfl) (by rfl) (by rfl) (hg0.below (by exact hb1)) (by omega) ?_; intro b6 cap6 w6 hm6 bz; have hm6 := Lib.hid hm6; have hC := BlkAt.below (by exact hC.alloc (.cells #[] 27)) bz; have hM := BlkAt.below (by exact hM.alloc (.cells #[] 27)) bz; have hb : Below w.heap.size w w6 := below_step (by exact hb1) bz; have fC0 : w6.cell? ⟨w.heap.size, 0, none⟩ = some (.int .i64 e) := hC.cell rfl; have fC1 : w6.cell? ⟨w.heap.size, 1, none⟩ = some (.slice a L.length cap) := hC.cell rfl; have hCl := Nat.le_trans (show w.heap.size + 2 ≤ _ by first | exact hWs | (simp <;> omega)) bz.size; clear bz hb1)
          | (have hb1 := hb.alloc hb.size (.cells #[.int .i64 0, .slice none 0 0] 24); have hb1 := hb1.alloc hb1.size (.cells #[] 27); have hb1 := hb1.drew; refine step_append_mems (by rfl) _ _ (by rfl) (by rfl) (by rfl) (hg0.below (by exact hb1)) (by omega) ?_; intro b6 cap6 w6 hm6 bz; have hm6 := Lib.hid hm6; have hC := BlkAt.below (by exact (hC.alloc (.cells #[.int .i64 0, .slice none 0 0] 24)).alloc (.cells #[] 27)) bz; have hM := BlkAt.below (by exact (hM.alloc (.cells #[.int .i64 0, .slice none 0 0] 24)).alloc (.cells #[] 27)) bz; have hb : Below w.heap.size w w6 := below_step (by exact hb1) bz; have fC0 : w6.cell? ⟨w.heap.size, 0, none⟩ = some (.int .i64 e) := hC.cell rfl; have fC1 : w6.cell? ⟨w.heap.size, 1, none⟩ = some (.slice a L.length cap) := hC.cell rfl; have hCl := Nat.le_trans (show w.heap.size + 2 ≤ _ by first | exact hWs | (simp <;> omega)) bz.size; have hX : BlkAt w6 (w2.heap.size) 24 [.int .i64 0, .slice none 0 0] := BlkAt.below (by exact (BlkAt.new w2 24 [.int .i64 0, .slice none 0 0]).alloc (.cells #[] 27)) bz; have hXn : w.heap.size + 2 ≤ w2.heap.size := (by omega); clear bz hb1)
          | (have hb1 := hb.alloc hb.size (.cells #[] 27); have hb1 := hb1.alloc hb1.size (.cells #[.int .i64 0, .slice none 0 0] 24); have hb1 := hb1.drew; refine step_append_mems (by rfl) _ _ (by rfl) (by rfl) (by rfl) (hg0.below (by exact hb1)) (by omega) ?_; intro b6 cap6 w6 hm6 bz; have hm6 := Lib.hid hm6; have hC := BlkAt.below (by exact (hC.alloc (.cells #[] 27)).alloc (.cells #[.int .i64 0, .slice none 0 0] 24)) bz; have hM := BlkAt.below (by exact (hM.alloc (.cells #[] 27)).alloc (.cells #[.int .i64 0, .slice none 0 0] 24)) bz; have hb : Below w.heap.size w w6 := below_step (by exact hb1) bz; have fC0 : w6.cell? ⟨w.heap.size, 0, none⟩ = some (.int .i64 e) := hC.cell rfl; have fC1 : w6.cell? ⟨w.heap.size, 1, none⟩ = some (.slice a L.length cap) := hC.cell rfl; have hCl := Nat.le_trans (show w.heap.size + 2 ≤ _ by first | exact hWs | (simp <;> omega)) bz.size; have hX : BlkAt w6 (w2.heap.size + 1) 24 [.int .i64 0, .slice none 0 0] := BlkAt.below (by exact BlkAt.newAt (w := w2.alloc (.cells #[] 27)) (by simp) 24 [.int .i64 0, .slice none 0 0]) bz; have hXn : w.heap.size + 2 ≤ w2.heap.size + 1 := (by omega); clear bz hb1)
          | (go_at_call 12; refine (cwithout_at (by exact hv0.below hb) (by exact hm6.out) HW.out).mono ?_; rintro en w7 ⟨a2, cap2, rfl, hv2, bz⟩; have hC := BlkAt.below (by exact hC) bz; have hM := BlkAt.below (by exact hM) bz; have hb : Below w.heap.size w w7 := below_step (by exact hb) bz; have fC0 : w7.cell? ⟨w.heap.size, 0, none⟩ = some (.int .i64 e) := hC.cell rfl; have fC1 : w7.cell? ⟨w.heap.size, 1, none⟩ = some (.slice a L.length cap) := hC.cell rfl; have hCl := Nat.le_trans hCl bz.size; (try (have hX := BlkAt.below (by exact hX) bz; have x0 := hX.cell (i := 0) rfl; have x1 := hX.cell (i := 1) rfl; have xf := hX.free)); clear bz)
          | (go_at_call 12; refine (cwithout_at (by exact hv0.below (hb.alloc hb.size (.cells #[.int .i64 0, .slice none 0 0] 24))) (by exact MemsV.below hm6.out ((Below.refl _ _).alloc (Nat.le_refl _) (.cells #[.int .i64 0, .slice none 0 0] 24))) HW.out).mono ?_; rintro en w7 ⟨a2, cap2, rfl, hv2, bz⟩; have hX := BlkAt.below (by exact BlkAt.new w6 24 [.int .i64 0, .slice none 0 0]) bz; have x0 := hX.cell (i := 0) rfl; have x1 := hX.cell (i := 1) rfl; have xf := hX.free; have hC := BlkAt.below (by exact hC.alloc (.cells #[.int .i64 0, .slice none 0 0] 24)) bz; have hM := BlkAt.below (by exact hM.alloc (.cells #[.int .i64 0, .slice none 0 0] 24)) bz; have hb : Below w.heap.size w w7 := below_step (by exact hb.alloc hb.size (.cells #[.int .i64 0, .slice none 0 0] 24)) bz; have fC0 : w7.cell? ⟨w.heap.size, 0, none⟩ = some (.int .i64 e) := hC.cell rfl; have fC1 : w7.cell? ⟨w.heap.size, 1, none⟩ = some (.slice a L.length cap) := hC.cell rfl; have hXn := hCl; have hCl := Nat.le_trans (show w.heap.size + 2 ≤ (w6.alloc (.cells #[.int .i64 0, .slice none 0 0] 24)).heap.size by simp <;> omega) bz.size; clear bz))
        · go_wp2_with fail
          go_meet
          exact ⟨_, a2, cap2, rfl, rfl, BlkAt.new w7 24 [.int .i64 pe, .slice a2 pL.length cap2], hv2.alloc _, hC.alloc _, hM.alloc _, hb.alloc hb.size _, hCl⟩
        all_goals
          go_wp2_with fail
          go_meet
          have hG := gone_end hX hv2 hC hM hb hXn hM0d (.int .i64 pe) (.slice a2 pL.length cap2)
          exact ⟨_, a2, cap2, rfl, rfl, hG.1, hG.2.1, hG.2.2.1, hG.2.2.2.1, hG.2.2.2.2, hXn⟩
      case rest =>
        obtain ⟨X, a2, cap2, rfl, rfl, hX, hv2, hC, hM, hb, hXn⟩ := hcut
        have hv := hv0.below hb
        have hg := hg0.below hb
        obtain ⟨p1, L1, x1, hJ⟩ := conf_parts (joinC ⟨e, L⟩ x y)
        obtain ⟨p2, L2, x2, hS⟩ := conf_parts (syncedC ⟨e, L⟩ x y)
        have HJ := Lib.hid hJ
        have HS := Lib.hid hS
        clear hJ hS
        have fhC0 : wc.cell? ⟨w.heap.size, 0, none⟩ = some (.int .i64 e) := hC.cell rfl
        have fhC1 : wc.cell? ⟨w.heap.size, 1, none⟩ = some (.slice a L.length cap) := hC.cell rfl
        go_wp2_with fail
        refine (qcwithout_at (by exact hv) (by exact hg) HW.out).mono ?_
        rintro en w31 ⟨a3, cap3, rfl, hv3, b31⟩
        have hC := BlkAt.below (by exact hC) b31
        have hM := BlkAt.below (by exact hM) b31
        have hX := BlkAt.below (by exact hX) b31
        have hv := hv.below b31
        have hg := hg.below b31
        have hv2 := hv2.below b31
        have hb := below_step hb b31
        clear fhC0 fhC1 b31
        clear hg
        go_upto_region 5 with (fail)
        have hA := BlkAt.new w31 24 [.int .i64 pe, .slice a3 pL.length cap3]
        have hC := hC.alloc (.cells #[.int .i64 pe, .slice a3 pL.length cap3] 24)
        have hM := hM.alloc (.cells #[.int .i64 pe, .slice a3 pL.length cap3] 24)
        have hX := hX.alloc (.cells #[.int .i64 pe, .slice a3 pL.length cap3] 24)
        have hv := hv.alloc (.cells #[.int .i64 pe, .slice a3 pL.length cap3] 24)
        have hv2 := hv2.alloc (.cells #[.int .i64 pe, .slice a3 pL.length cap3] 24)
        have hv3 := hv3.alloc (.cells #[.int .i64 pe, .slice a3 pL.length cap3] 24)
        have hb := hb.alloc hb.size (.cells #[.int .i64 pe, .slice a3 pL.length cap3] 24)
        change Code.wp _ _ _ _ (w31.alloc (.cells #[.int .i64 pe, .slice a3 pL.length cap3] 24))
        change BlkAt (w31.alloc (.cells #[.int .i64 pe, .slice a3 pL.length cap3] 24)) _ _ _ at hA
        generalize w31.alloc (.cells #[.int .i64 pe, .slice a3 pL.length cap3] 24) = v31_3 at *
        generalize w31.heap.size = A at *
        have fhC0 : v31_3.cell? ⟨w.heap.size, 0, none⟩ = some (.int .i64 e) := hC.cell rfl
        have fhC1 : v31_3.cell? ⟨w.heap.size, 1, none⟩ = some (.slice a L.length cap) := hC.cell rfl
        have fhM0 : v31_3.cell? ⟨M0, 0, none⟩ = some (.int .i64 x) := hM.cell rfl
        have fhM1 : v31_3.cell? ⟨M0, 1, none⟩ = some (.int .i64 y) := hM.cell rfl
        go_wp2_with fail
        refine (cjoin_at (by exact hv) hx hy HJ.out).mono ?_
        rintro en w32 ⟨a4, cap4, rfl, hv4, b32⟩
        have hC := BlkAt.below (by exact hC) b32
        have hM := BlkAt.below (by exact hM) b32
        have hX := BlkAt.below (by exact hX) b32
        have hA := BlkAt.below (by exact hA) b32
        have hv := hv.below b32
        have hv2 := hv2.below b32
        have hv3 := hv3.below b32
        have hb := below_step hb b32
        clear fhC0 fhC1 fhM0 fhM1 b32
        go_upto_region 6 with (fail)
        have hB := BlkAt.new w32 24 [.int .i64 p1, .slice a4 L1.length cap4]
        have hC := hC.alloc (.cells #[.int .i64 p1, .slice a4 L1.length cap4] 24)
        have hM := hM.alloc (.cells #[.int .i64 p1, .slice a4 L1.length cap4] 24)
        have hX := hX.alloc (.cells #[.int .i64 p1, .slice a4 L1.length cap4] 24)
        have hA := hA.alloc (.cells #[.int .i64 p1, .slice a4 L1.length cap4] 24)
        have hv := hv.alloc (.cells #[.int .i64 p1, .slice a4 L1.length cap4] 24)
        have hv2 := hv2.alloc (.cells #[.int .i64 p1, .slice a4 L1.length cap4] 24)
        have hv3 := hv3.alloc (.cells #[.int .i64 p1, .slice a4 L1.length cap4] 24)
        have hv4 := hv4.alloc (.cells #[.int .i64 p1, .slice a4 L1.length cap4] 24)
        have hb := hb.alloc hb.size (.cells #[.int .i64 p1, .slice a4 L1.length cap4] 24)
        change Code.wp _ _ _ _ (w32.alloc (.cells #[.int .i64 p1, .slice a4 L1.length cap4] 24))
        change BlkAt (w32.alloc (.cells #[.int .i64 p1, .slice a4 L1.length cap4] 24)) _ _ _ at hB
        generalize w32.alloc (.cells #[.int .i64 p1, .slice a4 L1.length cap4] 24) = v32_4 at *
        generalize w32.heap.size = B at *
        have fhC0 : v32_4.cell? ⟨w.heap.size, 0, none⟩ = some (.int .i64 e) := hC.cell rfl
        have fhC1 : v32_4.cell? ⟨w.heap.size, 1, none⟩ = some (.slice a L.length cap) := hC.cell rfl
        have fhM0 : v32_4.cell? ⟨M0, 0, none⟩ = some (.int .i64 x) := hM.cell rfl
        have fhM1 : v32_4.cell? ⟨M0, 1, none⟩ = some (.int .i64 y) := hM.cell rfl
        go_wp2_with fail
        refine (qcjoin_at (by exact hv) hx hy HJ.out).mono ?_
        rintro en w33 ⟨a5, cap5, rfl, hv5, b33⟩
        have hC := BlkAt.below (by exact hC) b33
        have hM := BlkAt.below (by exact hM) b33
        have hX := BlkAt.below (by exact hX) b33
        have hA := BlkAt.below (by exact hA) b33
        have hB := BlkAt.below (by exact hB) b33
        have hv := hv.below b33
        have hv2 := hv2.below b33
        have hv3 := hv3.below b33
        have hv4 := hv4.below b33
        have hb := below_step hb b33
        clear fhC0 fhC1 fhM0 fhM1 b33
        go_upto_region 7 with (fail)
        have hD := BlkAt.new w33 24 [.int .i64 p1, .slice a5 L1.length cap5]
        have hC := hC.alloc (.cells #[.int .i64 p1, .slice a5 L1.length cap5] 24)
        have hM := hM.alloc (.cells #[.int .i64 p1, .slice a5 L1.length cap5] 24)
        have hX := hX.alloc (.cells #[.int .i64 p1, .slice a5 L1.length cap5] 24)
        have hA := hA.alloc (.cells #[.int .i64 p1, .slice a5 L1.length cap5] 24)
        have hB := hB.alloc (.cells #[.int .i64 p1, .slice a5 L1.length cap5] 24)
        have hv := hv.alloc (.cells #[.int .i64 p1, .slice a5 L1.length cap5] 24)
        have hv2 := hv2.alloc (.cells #[.int .i64 p1, .slice a5 L1.length cap5] 24)
        have hv3 := hv3.alloc (.cells #[.int .i64 p1, .slice a5 L1.length cap5] 24)
        have hv4 := hv4.alloc (.cells #[.int .i64 p1, .slice a5 L1.length cap5] 24)
        have hv5 := hv5.alloc (.cells #[.int .i64 p1, .slice a5 L1.length cap5] 24)
        have hb := hb.alloc hb.size (.cells #[.int .i64 p1, .slice a5 L1.length cap5] 24)
        change Code.wp _ _ _ _ (w33.alloc (.cells #[.int .i64 p1, .slice a5 L1.length cap5] 24))
        change BlkAt (w33.alloc (.cells #[.int .i64 p1, .slice a5 L1.length cap5] 24)) _ _ _ at hD
        generalize w33.alloc (.cells #[.int .i64 p1, .slice a5 L1.length cap5] 24) = v33_5 at *
        generalize w33.heap.size = D at *
        have fhC0 : v33_5.cell? ⟨w.heap.size, 0, none⟩ = some (.int .i64 e) := hC.cell rfl
        have fhC1 : v33_5.cell? ⟨w.heap.size, 1, none⟩ = some (.slice a L.length cap) := hC.cell rfl
        have fhM0 : v33_5.cell? ⟨M0, 0, none⟩ = some (.int .i64 x) := hM.cell rfl
        have fhM1 : v33_5.cell? ⟨M0, 1, none⟩ = some (.int .i64 y) := hM.cell rfl
        go_wp2_with fail
        refine (csynced_at (by exact hv) hx hy HS.out).mono ?_
        rintro en w34 ⟨a6, cap6, rfl, hv6, b34⟩
        have hC := BlkAt.below (by exact hC) b34
        have hM := BlkAt.below (by exact hM) b34
        have hX := BlkAt.below (by exact hX) b34
        have hA := BlkAt.below (by exact hA) b34
        have hB := BlkAt.below (by exact hB) b34
        have hD := BlkAt.below (by exact hD) b34
        have hv := hv.below b34
        have hv2 := hv2.below b34
        have hv3 := hv3.below b34
        have hv4 := hv4.below b34
        have hv5 := hv5.below b34
        have hb := below_step hb b34
        clear fhC0 fhC1 fhM0 fhM1 b34
        go_upto_region 8 with (fail)
        have hE := BlkAt.new w34 24 [.int .i64 p2, .slice a6 L2.length cap6]
        have hC := hC.alloc (.cells #[.int .i64 p2, .slice a6 L2.length cap6] 24)
        have hM := hM.alloc (.cells #[.int .i64 p2, .slice a6 L2.length cap6] 24)
        have hX := hX.alloc (.cells #[.int .i64 p2, .slice a6 L2.length cap6] 24)
        have hA := hA.alloc (.cells #[.int .i64 p2, .slice a6 L2.length cap6] 24)
        have hB := hB.alloc (.cells #[.int .i64 p2, .slice a6 L2.length cap6] 24)
        have hD := hD.alloc (.cells #[.int .i64 p2, .slice a6 L2.length cap6] 24)
        have hv := hv.alloc (.cells #[.int .i64 p2, .slice a6 L2.length cap6] 24)
        have hv2 := hv2.alloc (.cells #[.int .i64 p2, .slice a6 L2.length cap6] 24)
        have hv3 := hv3.alloc (.cells #[.int .i64 p2, .slice a6 L2.length cap6] 24)
        have hv4 := hv4.alloc (.cells #[.int .i64 p2, .slice a6 L2.length cap6] 24)
        have hv5 := hv5.alloc (.cells #[.int .i64 p2, .slice a6 L2.length cap6] 24)
        have hv6 := hv6.alloc (.cells #[.int .i64 p2, .slice a6 L2.length cap6] 24)
        have hb := hb.alloc hb.size (.cells #[.int .i64 p2, .slice a6 L2.length cap6] 24)
        change Code.wp _ _ _ _ (w34.alloc (.cells #[.int .i64 p2, .slice a6 L2.length cap6] 24))
        change BlkAt (w34.alloc (.cells #[.int .i64 p2, .slice a6 L2.length cap6] 24)) _ _ _ at hE
        generalize w34.alloc (.cells #[.int .i64 p2, .slice a6 L2.length cap6] 24) = v34_6 at *
        generalize w34.heap.size = E at *
        have fhC0 : v34_6.cell? ⟨w.heap.size, 0, none⟩ = some (.int .i64 e) := hC.cell rfl
        have fhC1 : v34_6.cell? ⟨w.heap.size, 1, none⟩ = some (.slice a L.length cap) := hC.cell rfl
        have fhM0 : v34_6.cell? ⟨M0, 0, none⟩ = some (.int .i64 x) := hM.cell rfl
        have fhM1 : v34_6.cell? ⟨M0, 1, none⟩ = some (.int .i64 y) := hM.cell rfl
        go_wp2_with fail
        refine (qcsynced_at (by exact hv) hx hy HS.out).mono ?_
        rintro en w35 ⟨a7, cap7, rfl, hv7, b35⟩
        have hC := BlkAt.below (by exact hC) b35
        have hM := BlkAt.below (by exact hM) b35
        have hX := BlkAt.below (by exact hX) b35
        have hA := BlkAt.below (by exact hA) b35
        have hB := BlkAt.below (by exact hB) b35
        have hD := BlkAt.below (by exact hD) b35
        have hE := BlkAt.below (by exact hE) b35
        have hv := hv.below b35
        have hv2 := hv2.below b35
        have hv3 := hv3.below b35
        have hv4 := hv4.below b35
        have hv5 := hv5.below b35
        have hv6 := hv6.below b35
        have hb := below_step hb b35
        clear fhC0 fhC1 fhM0 fhM1 b35
        go_upto_region 9 with (fail)
        have hH := BlkAt.new w35 24 [.int .i64 p2, .slice a7 L2.length cap7]
        have hC := hC.alloc (.cells #[.int .i64 p2, .slice a7 L2.length cap7] 24)
        have hM := hM.alloc (.cells #[.int .i64 p2, .slice a7 L2.length cap7] 24)
        have hX := hX.alloc (.cells #[.int .i64 p2, .slice a7 L2.length cap7] 24)
        have hA := hA.alloc (.cells #[.int .i64 p2, .slice a7 L2.length cap7] 24)
        have hB := hB.alloc (.cells #[.int .i64 p2, .slice a7 L2.length cap7] 24)
        have hD := hD.alloc (.cells #[.int .i64 p2, .slice a7 L2.length cap7] 24)
        have hE := hE.alloc (.cells #[.int .i64 p2, .slice a7 L2.length cap7] 24)
        have hv := hv.alloc (.cells #[.int .i64 p2, .slice a7 L2.length cap7] 24)
        have hv2 := hv2.alloc (.cells #[.int .i64 p2, .slice a7 L2.length cap7] 24)
        have hv3 := hv3.alloc (.cells #[.int .i64 p2, .slice a7 L2.length cap7] 24)
        have hv4 := hv4.alloc (.cells #[.int .i64 p2, .slice a7 L2.length cap7] 24)
        have hv5 := hv5.alloc (.cells #[.int .i64 p2, .slice a7 L2.length cap7] 24)
        have hv6 := hv6.alloc (.cells #[.int .i64 p2, .slice a7 L2.length cap7] 24)
        have hv7 := hv7.alloc (.cells #[.int .i64 p2, .slice a7 L2.length cap7] 24)
        have hb := hb.alloc hb.size (.cells #[.int .i64 p2, .slice a7 L2.length cap7] 24)
        change Code.wp _ _ _ _ (w35.alloc (.cells #[.int .i64 p2, .slice a7 L2.length cap7] 24))
        change BlkAt (w35.alloc (.cells #[.int .i64 p2, .slice a7 L2.length cap7] 24)) _ _ _ at hH
        generalize w35.alloc (.cells #[.int .i64 p2, .slice a7 L2.length cap7] 24) = v35_7 at *
        generalize w35.heap.size = H at *
        clear hv
        clear hC hM
        have q1 : (px == px) = true := by simp
        have q2 : (x1 == x1) = true := by simp
        have q3 : (x2 == x2) = true := by simp
        have fhX0 : v35_7.cell? ⟨X, 0, none⟩ = some (.int .i64 pe) := hX.cell rfl
        have fhX1 : v35_7.cell? ⟨X, 1, none⟩ = some (.slice a2 pL.length cap2) := hX.cell rfl
        have fhA0 : v35_7.cell? ⟨A, 0, none⟩ = some (.int .i64 pe) := hA.cell rfl
        have fhA1 : v35_7.cell? ⟨A, 1, none⟩ = some (.slice a3 pL.length cap3) := hA.cell rfl
        go_wp2_with fail
        refine (qcsame_at (by exact hv2) (by exact hv3) (sameC_self ⟨pe, pL⟩)).mono ?_
        rintro en w36 ⟨rfl, b36⟩
        have hX := BlkAt.below (by exact hX) b36
        have hA := BlkAt.below (by exact hA) b36
        have hB := BlkAt.below (by exact hB) b36
        have hD := BlkAt.below (by exact hD) b36
        have hE := BlkAt.below (by exact hE) b36
        have hH := BlkAt.below (by exact hH) b36
        have hv2 := hv2.below b36
        have hv3 := hv3.below b36
        have hv4 := hv4.below b36
        have hv5 := hv5.below b36
        have hv6 := hv6.below b36
        have hv7 := hv7.below b36
        have hb := below_step hb b36
        clear fhX0 fhX1 fhA0 fhA1 b36
        have fhB0 : w36.cell? ⟨B, 0, none⟩ = some (.int .i64 p1) := hB.cell rfl
        have fhB1 : w36.cell? ⟨B, 1, none⟩ = some (.slice a4 L1.length cap4) := hB.cell rfl
        have fhD0 : w36.cell? ⟨D, 0, none⟩ = some (.int .i64 p1) := hD.cell rfl
        have fhD1 : w36.cell? ⟨D, 1, none⟩ = some (.slice a5 L1.length cap5) := hD.cell rfl
        go_wp2_with fail
        refine (qcsame_at (by exact hv4) (by exact hv5) (sameC_self ⟨p1, L1⟩)).mono ?_
        rintro en w37 ⟨rfl, b37⟩
        have hX := BlkAt.below (by exact hX) b37
        have hA := BlkAt.below (by exact hA) b37
        have hB := BlkAt.below (by exact hB) b37
        have hD := BlkAt.below (by exact hD) b37
        have hE := BlkAt.below (by exact hE) b37
        have hH := BlkAt.below (by exact hH) b37
        have hv2 := hv2.below b37
        have hv3 := hv3.below b37
        have hv4 := hv4.below b37
        have hv5 := hv5.below b37
        have hv6 := hv6.below b37
        have hv7 := hv7.below b37
        have hb := below_step hb b37
        clear fhB0 fhB1 fhD0 fhD1 b37
        have fhE0 : w37.cell? ⟨E, 0, none⟩ = some (.int .i64 p2) := hE.cell rfl
        have fhE1 : w37.cell? ⟨E, 1, none⟩ = some (.slice a6 L2.length cap6) := hE.cell rfl
        have fhH0 : w37.cell? ⟨H, 0, none⟩ = some (.int .i64 p2) := hH.cell rfl
        have fhH1 : w37.cell? ⟨H, 1, none⟩ = some (.slice a7 L2.length cap7) := hH.cell rfl
        go_wp2_with fail
        refine (qcsame_at (by exact hv6) (by exact hv7) (sameC_self ⟨p2, L2⟩)).mono ?_
        rintro en w38 ⟨rfl, b38⟩
        have hX := BlkAt.below (by exact hX) b38
        have hA := BlkAt.below (by exact hA) b38
        have hB := BlkAt.below (by exact hB) b38
        have hD := BlkAt.below (by exact hD) b38
        have hE := BlkAt.below (by exact hE) b38
        have hH := BlkAt.below (by exact hH) b38
        have hv2 := hv2.below b38
        have hv3 := hv3.below b38
        have hv4 := hv4.below b38
        have hv5 := hv5.below b38
        have hv6 := hv6.below b38
        have hv7 := hv7.below b38
        have hb := below_step hb b38
        clear fhE0 fhE1 fhH0 fhH1 b38
        go_wp2_with fail
        go_ret
        exact ⟨by simp, hb⟩
    · have h4' : (40 : Int) < (G.length : Int) := by omega
      go_wp2_with fail
      refine (awake_any _).mono ?_
      rintro en w9 ⟨rfl, b9⟩
      have hb := below_step hb b9
      go_wp2_with fail
      go_ret
      exact ⟨rfl, hb⟩
  · have hfd : decide (L.length ≤ 40) = false := by simpa using hf
    have HF := Lib.hid hfd
    clear hfd
    have fhC0 : w1.cell? ⟨w.heap.size, 0, none⟩ = some (.int .i64 e) := hC.cell rfl
    have fhC1 : w1.cell? ⟨w.heap.size, 1, none⟩ = some (.slice a L.length cap) := hC.cell rfl
    go_wp2_with fail
    refine (few_one (by exact BlkAt.new _ 24 [.int .i64 e, .slice a L.length cap]) (by exact hv.alloc _)).mono ?_
    rintro en w2 ⟨rfl, b2⟩
    have hC := BlkAt.below (by exact hC.alloc (.cells #[.int .i64 e, .slice a L.length cap] 24)) b2
    have hM := BlkAt.below (by exact hM.alloc (.cells #[.int .i64 e, .slice a L.length cap] 24)) b2
    have hv := (hv.alloc (.cells #[.int .i64 e, .slice a L.length cap] 24)).below b2
    have hb := below_step (hb.alloc hb.size (.cells #[.int .i64 e, .slice a L.length cap] 24)) b2
    clear fhC0 fhC1 b2
    rw [HF.out]
    go_wp2_with fail
    refine (awake_any _).mono ?_
    rintro en w9 ⟨rfl, b9⟩
    have hb := below_step hb b9
    go_wp2_with fail
    go_ret
    exact ⟨rfl, hb⟩

set_option maxRecDepth 100000 in
theorem ConfigTurns_walk {H : Type} {enc : TypeId × Value → H} {base : Nat} {d d2 : DataW H} {p p2 : List MemPlace} (v v2 : Value) (x y : Int) (w : World) (hv : Value.okWide Try.prog w .any base 24 v) (ht : DataW.Trod enc Try.prog w 0 (fun _ => true) true 24 v d p)
    (hv2 : Value.okWide Try.prog w .any base 25 v2) (ht2 : DataW.Trod enc Try.prog w 0 (fun _ => true) true 25 v2 d2 p2) (hx : W64 x) (hy : W64 y) :
    Calls Try.prog 3 #[v, v2, .agg #[.int .i64 x, .int .i64 y]] w fun e w' => e = .returned (.bool true) ∧ Below w.heap.size w w' := by
  obtain ⟨e, a, cap, L, he, hc, rfl⟩ := open_conf hv ht
  obtain ⟨ag, G, cag, rfl, hG, _⟩ := open_mems hv2 ht2
  exact ConfigTurns_go hc ⟨ag, cag, rfl, hG⟩ hG.1 hx hy


set_option maxRecDepth 100000 in
theorem ConfigTurns_calls (H : Type) (enc : TypeId × Value → H) (W : World) (base : Nat) (args : Array Value) (ds gs : List (DataW H)) (before : List MemPlace)
    (hval : ∀ (j : Nat) t v, Try.f3.params[j]? = some t → args[j]? = some v → Value.okWide Try.prog W .any base t v)
    (hW : DataW.Whole enc Try.prog Try.f3.params.toList Rows.configTurnsSpec.vars false W args.toList ds gs before) :
    Calls Try.prog 3 args W fun e W' => e = .returned (.bool true) ∧ Below W.heap.size W W' := by
  obtain ⟨p, q, hA, hV, rfl, hfz, hnd⟩ := hW
  rw [Try.params3] at hA hval
  obtain ⟨v0, vs0, d0, ds0, p0, q0, hargs, rfl, rfl, h0, r0⟩ := trodAll_cons hA
  obtain ⟨v1, vs1, d1, ds1, p1, q1, rfl, rfl, rfl, h1, r1⟩ := trodAll_cons r0
  obtain ⟨v2, vs2, d2, ds2, p2, q2, rfl, rfl, rfl, h2, r2⟩ := trodAll_cons r1
  obtain ⟨rfl, rfl, rfl⟩ := trodAll_nil r2
  obtain rfl : args = #[v0, v1, v2] := Array.toList_inj.1 hargs
  obtain ⟨c2, e2, z2, z2_, m2, rfl, rfl, rfl, hz2, hz2_⟩ := Joins.open_agg2 Try.underlying27 (by kernel_rfl) (by kernel_rfl) (hval 2 27 v2 rfl rfl) h2
  obtain ⟨x2, g2, rfl, w2⟩ := DataW.trod_int Try.underlying3 hz2
  obtain ⟨y2, g2_, rfl, w2_⟩ := DataW.trod_int Try.underlying3 hz2_
  simp at g2 g2_; subst g2 g2_
  exact ConfigTurns_walk v0 v1 x2 y2 W (hval 0 24 v0 rfl rfl) h0 (hval 1 25 v1 rfl rfl) h1 w2 w2_

set_option maxRecDepth 100000 in
theorem ConfigTurns_lifted (os : Os) (started : os.Started) (H : Type) (enc : TypeId × Value → H) :
    ReturnsInHanded {} Try.checked os 3 .any (Rows.configTurnsSpec.pre6 enc Try.prog Try.f3 Rows.configTurnsRow.domain false) (Rows.configTurnsSpec.post enc Try.prog Try.f3 false true false false) := by
  refine returnsInHanded_of_change (C := Try.checked) own started (by kernel_rfl) Try.func3
    (ChangeSpec.witness6 (enc := enc) (C := Try.checked) false ⟨#[], #[.agg #[.int .i64 0, .slice none 0 0], .slice none 0 0, .agg #[.int .i64 0, .int .i64 0]], []⟩ 8 (by kernel_rfl) (by kernel_rfl) (by kernel_rfl) (by kernel_rfl)) ?_
  intro W base args ds gs before hval0 hW hcnd _
  have hval : ∀ (j : Nat) t v, Try.f3.params[j]? = some t → args[j]? = some v → Value.okWide Try.prog W .any base t v := hval0
  refine (ConfigTurns_calls H enc W base args ds gs before hval hW).mono fun e W' ⟨he, bel⟩ => ?_
  exact ⟨_, he, law_post (ts := [24, 25, 27]) (by rw [Try.params3]) (by intro t ht; simp only [List.mem_cons, List.not_mem_nil, or_false] at ht; rcases ht with rfl | rfl | rfl <;> exact ⟨by kernel_rfl, of_decide_eq_true (by kernel_rfl)⟩) hW rfl
    (fun ds h => by match ds, h with | [_, _, _], _ => rfl) (by kernel_rfl) bel⟩

theorem ConfigTurns_over : Rows.configTurnsRow.holds Try.pinned (OpenSpec.ofChange Rows.configTurnsSpec) :=
  OpenClaim.holds_of_wide 3 Try.f3 rfl rfl rfl rfl rfl rfl rfl ⟨rfl, rfl, rfl, rfl, rfl⟩ rfl rfl rfl rfl rfl (by kernel_rfl) Try.func3 (by kernel_rfl)
    (of_decide_eq_true (by kernel_rfl)) (by unfold Func.isWrapper; first | (rw [if_pos (by decide +kernel)]; kernel_rfl) | (rw [if_neg (by decide +kernel)]; exact ⟨rfl, rfl⟩))
    (fun os started H enc _ => ConfigTurns_lifted os started H enc)

/-- The statement. -/
theorem ConfigTurns_proved : Rows.ConfigTurnsSaid := ConfigTurns_over

end Go.Proofs.Ytofdmdpnobhnlaa
