/- ConfigFollows: for every two chains and every member the law answers true. No condition. -/
import Derived.Test.YtofdmdpnobhnlaaCfgAwake
import Derived.Test.YtofdmdpnobhnlaaCfgSteps
import Derived.Deep.RegionHeld3
import Derived.Deep.DeepCutAuto
namespace Go.Proofs.Ytofdmdpnobhnlaa
open Go.RowKit Go.ChangeShapes Go.WideShapes Go.Joins Go.Deep
set_option linter.unusedVariables false

theorem few_two_is {w : World} {a cap : Nat} {e f : Int} {v u : Value} {L M : List SeatV} (hA : BlkAt w a 24 [.int .i64 e, v, .int .i64 f, u]) (hv : ChainAt w v L) (hu : ChainAt w u M) {q : Bool} (hq : decide (L.length ≤ 40 ∧ M.length ≤ 40) = q) :
    Calls Try.prog 11 #[.slice (some ⟨a, 0, none⟩) 2 cap] w fun en w' => en = .returned (.bool q) ∧ Below w.heap.size w w' := by
  subst hq
  exact few_two hA hv hu

set_option maxRecDepth 100000 in
set_option maxHeartbeats 4000000 in

theorem ConfigFollows_go {w : World} {e f x y : Int} {a a2 : Option Addr} {cap cap2 : Nat} {L M : List SeatV} (hv : ChainAt w (.slice a L.length cap) L) (hu : ChainAt w (.slice a2 M.length cap2) M) (hx : W64 x) (hy : W64 y) :
    Calls Try.prog 4 #[.agg #[.int .i64 e, .slice a L.length cap], .agg #[.int .i64 f, .slice a2 M.length cap2], .agg #[.int .i64 x, .int .i64 y]] w fun e w' => e = .returned (.bool true) ∧ Below w.heap.size w w' := by
  go_enter Try.func4, Try.ntmps4
  go_upto_region 1 with (fail)
  have hA : BlkAt (((w.alloc (.cells #[.int .i64 e, .slice a L.length cap] 24)).alloc (.cells #[.int .i64 f, .slice a2 M.length cap2] 24)).alloc (.cells #[.int .i64 x, .int .i64 y] 27)) w.heap.size 24 [.int .i64 e, .slice a L.length cap] := ((BlkAt.new w 24 [.int .i64 e, .slice a L.length cap]).alloc _).alloc _
  have hB : BlkAt (((w.alloc (.cells #[.int .i64 e, .slice a L.length cap] 24)).alloc (.cells #[.int .i64 f, .slice a2 M.length cap2] 24)).alloc (.cells #[.int .i64 x, .int .i64 y] 27)) (w.heap.size + 1) 24 [.int .i64 f, .slice a2 M.length cap2] := (BlkAt.newAt (by simp) 24 [.int .i64 f, .slice a2 M.length cap2]).alloc _
  have hM : BlkAt (((w.alloc (.cells #[.int .i64 e, .slice a L.length cap] 24)).alloc (.cells #[.int .i64 f, .slice a2 M.length cap2] 24)).alloc (.cells #[.int .i64 x, .int .i64 y] 27)) (w.heap.size + 2) 27 [.int .i64 x, .int .i64 y] := BlkAt.newAt (by simp) 27 [.int .i64 x, .int .i64 y]
  have hb : Below w.heap.size w (((w.alloc (.cells #[.int .i64 e, .slice a L.length cap] 24)).alloc (.cells #[.int .i64 f, .slice a2 M.length cap2] 24)).alloc (.cells #[.int .i64 x, .int .i64 y] 27)) := (((Below.refl w.heap.size w).alloc (Nat.le_refl _) _).alloc (by simp) _).alloc (by simp; omega) _
  have hWs : w.heap.size + 3 ≤ (((w.alloc (.cells #[.int .i64 e, .slice a L.length cap] 24)).alloc (.cells #[.int .i64 f, .slice a2 M.length cap2] 24)).alloc (.cells #[.int .i64 x, .int .i64 y] 27)).heap.size := by simp
  have hv := hv.below hb
  have hu := hu.below hb
  change Code.wp _ _ _ _ (((w.alloc (.cells #[.int .i64 e, .slice a L.length cap] 24)).alloc (.cells #[.int .i64 f, .slice a2 M.length cap2] 24)).alloc (.cells #[.int .i64 x, .int .i64 y] 27))
  generalize ((w.alloc (.cells #[.int .i64 e, .slice a L.length cap] 24)).alloc (.cells #[.int .i64 f, .slice a2 M.length cap2] 24)).alloc (.cells #[.int .i64 x, .int .i64 y] 27) = W at *
  have hBn : w.heap.size ≤ w.heap.size + 1 := by omega
  have hBb : w.heap.size + 1 < w.heap.size + 3 := by omega
  have hB0 : w.heap.size + 1 ≠ w.heap.size := by omega
  have hM0n : w.heap.size ≤ w.heap.size + 2 := by omega
  have hM0b : w.heap.size + 2 < w.heap.size + 3 := by omega
  have hM00 : w.heap.size + 2 ≠ w.heap.size := by omega
  have hM01 : w.heap.size + 2 ≠ w.heap.size + 1 := by omega
  generalize hM0d : w.heap.size + 2 = M0 at *
  generalize hBd : w.heap.size + 1 = B at *
  clear hWs
  by_cases hf : L.length ≤ 40 ∧ M.length ≤ 40
  · have hfd : decide (L.length ≤ 40 ∧ M.length ≤ 40) = true := by simpa using hf
    have HF := Lib.hid hfd
    obtain ⟨fq, hfq⟩ : ∃ q, followsC ⟨e, L⟩ ⟨f, M⟩ = q := ⟨_, rfl⟩
    have HQ := Lib.hid hfq
    clear hfd hfq
    obtain ⟨p1, L1, x1, hW⟩ := conf_parts (withoutC ⟨e, L⟩ [(x, y)])
    obtain ⟨p2, L2, x2, hJ⟩ := conf_parts (joinC ⟨e, L⟩ x y)
    obtain ⟨p3, L3, x3, hS⟩ := conf_parts (syncedC ⟨e, L⟩ x y)
    have HW := Lib.hid hW
    have HJ := Lib.hid hJ
    have HS := Lib.hid hS
    clear hW hJ hS
    go_cut [30] (fun s wx => s = .bool false ∧ BlkAt wx w.heap.size 24 [.int .i64 e, .slice a L.length cap] ∧ BlkAt wx B 24 [.int .i64 f, .slice a2 M.length cap2] ∧ BlkAt wx M0 27 [.int .i64 x, .int .i64 y] ∧ ChainAt wx (.slice a L.length cap) L ∧ Below w.heap.size w wx)
    case first =>
      have fhA0 : W.cell? ⟨w.heap.size, 0, none⟩ = some (.int .i64 e) := hA.cell rfl
      have fhA1 : W.cell? ⟨w.heap.size, 1, none⟩ = some (.slice a L.length cap) := hA.cell rfl
      have fhB0 : W.cell? ⟨B, 0, none⟩ = some (.int .i64 f) := hB.cell rfl
      have fhB1 : W.cell? ⟨B, 1, none⟩ = some (.slice a2 M.length cap2) := hB.cell rfl
      go_region_held3 (fun w' => w'.cell? ⟨w.heap.size, 0, none⟩ = some (.int .i64 e) ∧ w'.cell? ⟨w.heap.size, 1, none⟩ = some (.slice a L.length cap) ∧ w'.cell? ⟨B, 0, none⟩ = some (.int .i64 f) ∧ w'.cell? ⟨B, 1, none⟩ = some (.slice a2 M.length cap2))
        (first | exact ⟨fhA0, fhA1, fhB0, fhB1⟩ | go_keep)
        (first
          | (go_at_call 10; refine (awake_any _).mono ?_; rintro en z ⟨rfl, bz⟩; have hA := BlkAt.below (by exact hA) bz; have hB := BlkAt.below (by exact hB) bz; have hM := BlkAt.below (by exact hM) bz; have hv := ChainAt.below (by exact hv) bz; have hu := ChainAt.below (by exact hu) bz; have hb := below_step (by first | exact hb | exact below_drewN hb 1) bz; have fhA0 : z.cell? ⟨w.heap.size, 0, none⟩ = some (.int .i64 e) := hA.cell rfl; have fhA1 : z.cell? ⟨w.heap.size, 1, none⟩ = some (.slice a L.length cap) := hA.cell rfl; have fhB0 : z.cell? ⟨B, 0, none⟩ = some (.int .i64 f) := hB.cell rfl; have fhB1 : z.cell? ⟨B, 1, none⟩ = some (.slice a2 M.length cap2) := hB.cell rfl; clear bz)
          | (go_at_call 11; refine (few_two_is (by exact BlkAt.new _ 24 [.int .i64 e, .slice a L.length cap, .int .i64 f, .slice a2 M.length cap2]) (by exact hv.alloc _) (by exact hu.alloc _) HF.out).mono ?_; rintro en z ⟨rfl, bz⟩; have hA := BlkAt.below (by exact hA.alloc (.cells #[.int .i64 e, .slice a L.length cap, .int .i64 f, .slice a2 M.length cap2] 24)) bz; have hB := BlkAt.below (by exact hB.alloc (.cells #[.int .i64 e, .slice a L.length cap, .int .i64 f, .slice a2 M.length cap2] 24)) bz; have hM := BlkAt.below (by exact hM.alloc (.cells #[.int .i64 e, .slice a L.length cap, .int .i64 f, .slice a2 M.length cap2] 24)) bz; have hv := ChainAt.below (by exact hv.alloc (.cells #[.int .i64 e, .slice a L.length cap, .int .i64 f, .slice a2 M.length cap2] 24)) bz; have hu := ChainAt.below (by exact hu.alloc (.cells #[.int .i64 e, .slice a L.length cap, .int .i64 f, .slice a2 M.length cap2] 24)) bz; have hb := below_step (hb.alloc hb.size (.cells #[.int .i64 e, .slice a L.length cap, .int .i64 f, .slice a2 M.length cap2] 24)) bz; have fhA0 : z.cell? ⟨w.heap.size, 0, none⟩ = some (.int .i64 e) := hA.cell rfl; have fhA1 : z.cell? ⟨w.heap.size, 1, none⟩ = some (.slice a L.length cap) := hA.cell rfl; have fhB0 : z.cell? ⟨B, 0, none⟩ = some (.int .i64 f) := hB.cell rfl; have fhB1 : z.cell? ⟨B, 1, none⟩ = some (.slice a2 M.length cap2) := hB.cell rfl; clear bz)
          | (go_at_call 19; refine (cfollows_at (by exact hv) (by exact hu) HQ.out).mono ?_; rintro en z ⟨rfl, bz⟩; have hA := BlkAt.below (by exact hA) bz; have hB := BlkAt.below (by exact hB) bz; have hM := BlkAt.below (by exact hM) bz; have hv := ChainAt.below (by exact hv) bz; have hu := ChainAt.below (by exact hu) bz; have hb := below_step (by first | exact hb | exact below_drewN hb 1) bz; have fhA0 : z.cell? ⟨w.heap.size, 0, none⟩ = some (.int .i64 e) := hA.cell rfl; have fhA1 : z.cell? ⟨w.heap.size, 1, none⟩ = some (.slice a L.length cap) := hA.cell rfl; have fhB0 : z.cell? ⟨B, 0, none⟩ = some (.int .i64 f) := hB.cell rfl; have fhB1 : z.cell? ⟨B, 1, none⟩ = some (.slice a2 M.length cap2) := hB.cell rfl; clear bz)
          | (go_at_call 20; refine (qcfollows_at (by exact hv) (by exact hu) HQ.out).mono ?_; rintro en z ⟨rfl, bz⟩; have hA := BlkAt.below (by exact hA) bz; have hB := BlkAt.below (by exact hB) bz; have hM := BlkAt.below (by exact hM) bz; have hv := ChainAt.below (by exact hv) bz; have hu := ChainAt.below (by exact hu) bz; have hb := below_step (by first | exact hb | exact below_drewN hb 1) bz; have fhA0 : z.cell? ⟨w.heap.size, 0, none⟩ = some (.int .i64 e) := hA.cell rfl; have fhA1 : z.cell? ⟨w.heap.size, 1, none⟩ = some (.slice a L.length cap) := hA.cell rfl; have fhB0 : z.cell? ⟨B, 0, none⟩ = some (.int .i64 f) := hB.cell rfl; have fhB1 : z.cell? ⟨B, 1, none⟩ = some (.slice a2 M.length cap2) := hB.cell rfl; clear bz))
      all_goals
        go_wp2_with fail
        go_meet
        exact ⟨by simp, hA, hB, hM, hv, hb⟩
    case rest =>
      obtain ⟨rfl, hA, hB, hM, hv, hb⟩ := hcut
      clear hB hu
      have fhA0 : wc.cell? ⟨w.heap.size, 0, none⟩ = some (.int .i64 e) := hA.cell rfl
      have fhA1 : wc.cell? ⟨w.heap.size, 1, none⟩ = some (.slice a L.length cap) := hA.cell rfl
      have fhM0 : wc.cell? ⟨M0, 0, none⟩ = some (.int .i64 x) := hM.cell rfl
      have fhM1 : wc.cell? ⟨M0, 1, none⟩ = some (.int .i64 y) := hM.cell rfl
      go_wp2_with fail
      refine (cwithout_at (by exact hv.alloc _) (by exact mems_new _ x y) HW.out).mono ?_
      rintro en w11 ⟨a3, cap3, rfl, hv3, b11⟩
      have hA := BlkAt.below (by exact hA.alloc (.cells #[.int .i64 x, .int .i64 y] 27)) b11
      have hM := BlkAt.below (by exact hM.alloc (.cells #[.int .i64 x, .int .i64 y] 27)) b11
      have hv := (hv.alloc (.cells #[.int .i64 x, .int .i64 y] 27)).below b11
      have hb := below_step (hb.alloc hb.size (.cells #[.int .i64 x, .int .i64 y] 27)) b11
      clear fhA0 fhA1 fhM0 fhM1 b11
      go_upto_region 4 with (fail)
      have hC := BlkAt.new w11 24 [.int .i64 p1, .slice a3 L1.length cap3]
      have hA := hA.alloc (.cells #[.int .i64 p1, .slice a3 L1.length cap3] 24)
      have hM := hM.alloc (.cells #[.int .i64 p1, .slice a3 L1.length cap3] 24)
      have hv := hv.alloc (.cells #[.int .i64 p1, .slice a3 L1.length cap3] 24)
      have hv3 := hv3.alloc (.cells #[.int .i64 p1, .slice a3 L1.length cap3] 24)
      have hb := hb.alloc hb.size (.cells #[.int .i64 p1, .slice a3 L1.length cap3] 24)
      change Code.wp _ _ _ _ (w11.alloc (.cells #[.int .i64 p1, .slice a3 L1.length cap3] 24))
      change BlkAt (w11.alloc (.cells #[.int .i64 p1, .slice a3 L1.length cap3] 24)) _ _ _ at hC
      generalize w11.alloc (.cells #[.int .i64 p1, .slice a3 L1.length cap3] 24) = v11_2 at *
      generalize w11.heap.size = C at *
      have fhA0 : v11_2.cell? ⟨w.heap.size, 0, none⟩ = some (.int .i64 e) := hA.cell rfl
      have fhA1 : v11_2.cell? ⟨w.heap.size, 1, none⟩ = some (.slice a L.length cap) := hA.cell rfl
      have fhM0 : v11_2.cell? ⟨M0, 0, none⟩ = some (.int .i64 x) := hM.cell rfl
      have fhM1 : v11_2.cell? ⟨M0, 1, none⟩ = some (.int .i64 y) := hM.cell rfl
      go_wp2_with fail
      refine (cjoin_at (by exact hv) hx hy HJ.out).mono ?_
      rintro en w12 ⟨a4, cap4, rfl, hv4, b12⟩
      have hA := BlkAt.below (by exact hA) b12
      have hM := BlkAt.below (by exact hM) b12
      have hC := BlkAt.below (by exact hC) b12
      have hv := hv.below b12
      have hv3 := hv3.below b12
      have hb := below_step hb b12
      clear fhA0 fhA1 fhM0 fhM1 b12
      go_upto_region 5 with (fail)
      have hD := BlkAt.new w12 24 [.int .i64 p2, .slice a4 L2.length cap4]
      have hA := hA.alloc (.cells #[.int .i64 p2, .slice a4 L2.length cap4] 24)
      have hM := hM.alloc (.cells #[.int .i64 p2, .slice a4 L2.length cap4] 24)
      have hC := hC.alloc (.cells #[.int .i64 p2, .slice a4 L2.length cap4] 24)
      have hv := hv.alloc (.cells #[.int .i64 p2, .slice a4 L2.length cap4] 24)
      have hv3 := hv3.alloc (.cells #[.int .i64 p2, .slice a4 L2.length cap4] 24)
      have hv4 := hv4.alloc (.cells #[.int .i64 p2, .slice a4 L2.length cap4] 24)
      have hb := hb.alloc hb.size (.cells #[.int .i64 p2, .slice a4 L2.length cap4] 24)
      change Code.wp _ _ _ _ (w12.alloc (.cells #[.int .i64 p2, .slice a4 L2.length cap4] 24))
      change BlkAt (w12.alloc (.cells #[.int .i64 p2, .slice a4 L2.length cap4] 24)) _ _ _ at hD
      generalize w12.alloc (.cells #[.int .i64 p2, .slice a4 L2.length cap4] 24) = v12_3 at *
      generalize w12.heap.size = D at *
      have fhA0 : v12_3.cell? ⟨w.heap.size, 0, none⟩ = some (.int .i64 e) := hA.cell rfl
      have fhA1 : v12_3.cell? ⟨w.heap.size, 1, none⟩ = some (.slice a L.length cap) := hA.cell rfl
      have fhM0 : v12_3.cell? ⟨M0, 0, none⟩ = some (.int .i64 x) := hM.cell rfl
      have fhM1 : v12_3.cell? ⟨M0, 1, none⟩ = some (.int .i64 y) := hM.cell rfl
      go_wp2_with fail
      refine (csynced_at (by exact hv) hx hy HS.out).mono ?_
      rintro en w13 ⟨a5, cap5, rfl, hv5, b13⟩
      have hA := BlkAt.below (by exact hA) b13
      have hM := BlkAt.below (by exact hM) b13
      have hC := BlkAt.below (by exact hC) b13
      have hD := BlkAt.below (by exact hD) b13
      have hv := hv.below b13
      have hv3 := hv3.below b13
      have hv4 := hv4.below b13
      have hb := below_step hb b13
      clear fhA0 fhA1 fhM0 fhM1 b13
      go_upto_region 6 with (fail)
      have hE := BlkAt.new w13 24 [.int .i64 p3, .slice a5 L3.length cap5]
      have hA := hA.alloc (.cells #[.int .i64 p3, .slice a5 L3.length cap5] 24)
      have hM := hM.alloc (.cells #[.int .i64 p3, .slice a5 L3.length cap5] 24)
      have hC := hC.alloc (.cells #[.int .i64 p3, .slice a5 L3.length cap5] 24)
      have hD := hD.alloc (.cells #[.int .i64 p3, .slice a5 L3.length cap5] 24)
      have hv := hv.alloc (.cells #[.int .i64 p3, .slice a5 L3.length cap5] 24)
      have hv3 := hv3.alloc (.cells #[.int .i64 p3, .slice a5 L3.length cap5] 24)
      have hv4 := hv4.alloc (.cells #[.int .i64 p3, .slice a5 L3.length cap5] 24)
      have hv5 := hv5.alloc (.cells #[.int .i64 p3, .slice a5 L3.length cap5] 24)
      have hb := hb.alloc hb.size (.cells #[.int .i64 p3, .slice a5 L3.length cap5] 24)
      change Code.wp _ _ _ _ (w13.alloc (.cells #[.int .i64 p3, .slice a5 L3.length cap5] 24))
      change BlkAt (w13.alloc (.cells #[.int .i64 p3, .slice a5 L3.length cap5] 24)) _ _ _ at hE
      generalize w13.alloc (.cells #[.int .i64 p3, .slice a5 L3.length cap5] 24) = v13_4 at *
      generalize w13.heap.size = E at *
      clear hM
      by_cases e1 : x1 = 0
      · subst e1
        have R1 := Lib.hid (without_right HW.out)
        have F1 := Lib.hid (follows_without HW.out)
        have B1 := Lib.hid (not_back (without_epoch HW.out))
        by_cases e2 : x2 = 0
        · subst e2
          have R2 := Lib.hid (join_right HJ.out)
          have F2 := Lib.hid (follows_join HJ.out)
          have B2 := Lib.hid (not_back (join_epoch HJ.out))
          by_cases e3 : x3 = 0
          · subst e3
            have R3 := Lib.hid (synced_right HS.out)
            have F3 := Lib.hid (follows_synced HS.out)
            have B3 := Lib.hid (synced_not_back HS.out)
            have fhC0 : v13_4.cell? ⟨C, 0, none⟩ = some (.int .i64 p1) := hC.cell rfl
            have fhC1 : v13_4.cell? ⟨C, 1, none⟩ = some (.slice a3 L1.length cap3) := hC.cell rfl
            go_wp2_with fail
            refine (cright_at (by exact hv3) R1.out).mono ?_
            rintro en w14 ⟨rfl, b14⟩
            have hA := BlkAt.below (by exact hA) b14
            have hC := BlkAt.below (by exact hC) b14
            have hD := BlkAt.below (by exact hD) b14
            have hE := BlkAt.below (by exact hE) b14
            have hv := hv.below b14
            have hv3 := hv3.below b14
            have hv4 := hv4.below b14
            have hv5 := hv5.below b14
            have hb := below_step hb b14
            clear fhC0 fhC1 b14
            have fhA0 : w14.cell? ⟨w.heap.size, 0, none⟩ = some (.int .i64 e) := hA.cell rfl
            have fhA1 : w14.cell? ⟨w.heap.size, 1, none⟩ = some (.slice a L.length cap) := hA.cell rfl
            have fhC0 : w14.cell? ⟨C, 0, none⟩ = some (.int .i64 p1) := hC.cell rfl
            have fhC1 : w14.cell? ⟨C, 1, none⟩ = some (.slice a3 L1.length cap3) := hC.cell rfl
            go_wp2_with fail
            refine (cfollows_at (by exact hv) (by exact hv3) F1.out).mono ?_
            rintro en w15 ⟨rfl, b15⟩
            have hA := BlkAt.below (by exact hA) b15
            have hC := BlkAt.below (by exact hC) b15
            have hD := BlkAt.below (by exact hD) b15
            have hE := BlkAt.below (by exact hE) b15
            have hv := hv.below b15
            have hv3 := hv3.below b15
            have hv4 := hv4.below b15
            have hv5 := hv5.below b15
            have hb := below_step hb b15
            clear fhA0 fhA1 fhC0 fhC1 b15
            have fhA0 : w15.cell? ⟨w.heap.size, 0, none⟩ = some (.int .i64 e) := hA.cell rfl
            have fhA1 : w15.cell? ⟨w.heap.size, 1, none⟩ = some (.slice a L.length cap) := hA.cell rfl
            have fhC0 : w15.cell? ⟨C, 0, none⟩ = some (.int .i64 p1) := hC.cell rfl
            have fhC1 : w15.cell? ⟨C, 1, none⟩ = some (.slice a3 L1.length cap3) := hC.cell rfl
            go_wp2_with fail
            refine (cfollows_at (by exact hv3) (by exact hv) B1.out).mono ?_
            rintro en w16 ⟨rfl, b16⟩
            have hA := BlkAt.below (by exact hA) b16
            have hC := BlkAt.below (by exact hC) b16
            have hD := BlkAt.below (by exact hD) b16
            have hE := BlkAt.below (by exact hE) b16
            have hv := hv.below b16
            have hv3 := hv3.below b16
            have hv4 := hv4.below b16
            have hv5 := hv5.below b16
            have hb := below_step hb b16
            clear fhA0 fhA1 fhC0 fhC1 b16
            have fhD0 : w16.cell? ⟨D, 0, none⟩ = some (.int .i64 p2) := hD.cell rfl
            have fhD1 : w16.cell? ⟨D, 1, none⟩ = some (.slice a4 L2.length cap4) := hD.cell rfl
            go_wp2_with fail
            refine (cright_at (by exact hv4) R2.out).mono ?_
            rintro en w17 ⟨rfl, b17⟩
            have hA := BlkAt.below (by exact hA) b17
            have hC := BlkAt.below (by exact hC) b17
            have hD := BlkAt.below (by exact hD) b17
            have hE := BlkAt.below (by exact hE) b17
            have hv := hv.below b17
            have hv3 := hv3.below b17
            have hv4 := hv4.below b17
            have hv5 := hv5.below b17
            have hb := below_step hb b17
            clear fhD0 fhD1 b17
            have fhA0 : w17.cell? ⟨w.heap.size, 0, none⟩ = some (.int .i64 e) := hA.cell rfl
            have fhA1 : w17.cell? ⟨w.heap.size, 1, none⟩ = some (.slice a L.length cap) := hA.cell rfl
            have fhD0 : w17.cell? ⟨D, 0, none⟩ = some (.int .i64 p2) := hD.cell rfl
            have fhD1 : w17.cell? ⟨D, 1, none⟩ = some (.slice a4 L2.length cap4) := hD.cell rfl
            go_wp2_with fail
            refine (cfollows_at (by exact hv) (by exact hv4) F2.out).mono ?_
            rintro en w18 ⟨rfl, b18⟩
            have hA := BlkAt.below (by exact hA) b18
            have hC := BlkAt.below (by exact hC) b18
            have hD := BlkAt.below (by exact hD) b18
            have hE := BlkAt.below (by exact hE) b18
            have hv := hv.below b18
            have hv3 := hv3.below b18
            have hv4 := hv4.below b18
            have hv5 := hv5.below b18
            have hb := below_step hb b18
            clear fhA0 fhA1 fhD0 fhD1 b18
            have fhA0 : w18.cell? ⟨w.heap.size, 0, none⟩ = some (.int .i64 e) := hA.cell rfl
            have fhA1 : w18.cell? ⟨w.heap.size, 1, none⟩ = some (.slice a L.length cap) := hA.cell rfl
            have fhD0 : w18.cell? ⟨D, 0, none⟩ = some (.int .i64 p2) := hD.cell rfl
            have fhD1 : w18.cell? ⟨D, 1, none⟩ = some (.slice a4 L2.length cap4) := hD.cell rfl
            go_wp2_with fail
            refine (cfollows_at (by exact hv4) (by exact hv) B2.out).mono ?_
            rintro en w19 ⟨rfl, b19⟩
            have hA := BlkAt.below (by exact hA) b19
            have hC := BlkAt.below (by exact hC) b19
            have hD := BlkAt.below (by exact hD) b19
            have hE := BlkAt.below (by exact hE) b19
            have hv := hv.below b19
            have hv3 := hv3.below b19
            have hv4 := hv4.below b19
            have hv5 := hv5.below b19
            have hb := below_step hb b19
            clear fhA0 fhA1 fhD0 fhD1 b19
            have fhE0 : w19.cell? ⟨E, 0, none⟩ = some (.int .i64 p3) := hE.cell rfl
            have fhE1 : w19.cell? ⟨E, 1, none⟩ = some (.slice a5 L3.length cap5) := hE.cell rfl
            go_wp2_with fail
            refine (cright_at (by exact hv5) R3.out).mono ?_
            rintro en w20 ⟨rfl, b20⟩
            have hA := BlkAt.below (by exact hA) b20
            have hC := BlkAt.below (by exact hC) b20
            have hD := BlkAt.below (by exact hD) b20
            have hE := BlkAt.below (by exact hE) b20
            have hv := hv.below b20
            have hv3 := hv3.below b20
            have hv4 := hv4.below b20
            have hv5 := hv5.below b20
            have hb := below_step hb b20
            clear fhE0 fhE1 b20
            have fhA0 : w20.cell? ⟨w.heap.size, 0, none⟩ = some (.int .i64 e) := hA.cell rfl
            have fhA1 : w20.cell? ⟨w.heap.size, 1, none⟩ = some (.slice a L.length cap) := hA.cell rfl
            have fhE0 : w20.cell? ⟨E, 0, none⟩ = some (.int .i64 p3) := hE.cell rfl
            have fhE1 : w20.cell? ⟨E, 1, none⟩ = some (.slice a5 L3.length cap5) := hE.cell rfl
            go_wp2_with fail
            refine (cfollows_at (by exact hv) (by exact hv5) F3.out).mono ?_
            rintro en w21 ⟨rfl, b21⟩
            have hA := BlkAt.below (by exact hA) b21
            have hC := BlkAt.below (by exact hC) b21
            have hD := BlkAt.below (by exact hD) b21
            have hE := BlkAt.below (by exact hE) b21
            have hv := hv.below b21
            have hv3 := hv3.below b21
            have hv4 := hv4.below b21
            have hv5 := hv5.below b21
            have hb := below_step hb b21
            clear fhA0 fhA1 fhE0 fhE1 b21
            have fhA0 : w21.cell? ⟨w.heap.size, 0, none⟩ = some (.int .i64 e) := hA.cell rfl
            have fhA1 : w21.cell? ⟨w.heap.size, 1, none⟩ = some (.slice a L.length cap) := hA.cell rfl
            have fhE0 : w21.cell? ⟨E, 0, none⟩ = some (.int .i64 p3) := hE.cell rfl
            have fhE1 : w21.cell? ⟨E, 1, none⟩ = some (.slice a5 L3.length cap5) := hE.cell rfl
            go_wp2_with fail
            refine (cfollows_at (by exact hv5) (by exact hv) B3.out).mono ?_
            rintro en w22 ⟨rfl, b22⟩
            have hA := BlkAt.below (by exact hA) b22
            have hC := BlkAt.below (by exact hC) b22
            have hD := BlkAt.below (by exact hD) b22
            have hE := BlkAt.below (by exact hE) b22
            have hv := hv.below b22
            have hv3 := hv3.below b22
            have hv4 := hv4.below b22
            have hv5 := hv5.below b22
            have hb := below_step hb b22
            clear fhA0 fhA1 fhE0 fhE1 b22
            go_wp2_with fail
            go_ret
            exact ⟨rfl, hb⟩
          · have z3 : (x3 != 0) = true := by simpa using e3
            have fhC0 : v13_4.cell? ⟨C, 0, none⟩ = some (.int .i64 p1) := hC.cell rfl
            have fhC1 : v13_4.cell? ⟨C, 1, none⟩ = some (.slice a3 L1.length cap3) := hC.cell rfl
            go_wp2_with fail
            refine (cright_at (by exact hv3) R1.out).mono ?_
            rintro en w14 ⟨rfl, b14⟩
            have hA := BlkAt.below (by exact hA) b14
            have hC := BlkAt.below (by exact hC) b14
            have hD := BlkAt.below (by exact hD) b14
            have hE := BlkAt.below (by exact hE) b14
            have hv := hv.below b14
            have hv3 := hv3.below b14
            have hv4 := hv4.below b14
            have hv5 := hv5.below b14
            have hb := below_step hb b14
            clear fhC0 fhC1 b14
            have fhA0 : w14.cell? ⟨w.heap.size, 0, none⟩ = some (.int .i64 e) := hA.cell rfl
            have fhA1 : w14.cell? ⟨w.heap.size, 1, none⟩ = some (.slice a L.length cap) := hA.cell rfl
            have fhC0 : w14.cell? ⟨C, 0, none⟩ = some (.int .i64 p1) := hC.cell rfl
            have fhC1 : w14.cell? ⟨C, 1, none⟩ = some (.slice a3 L1.length cap3) := hC.cell rfl
            go_wp2_with fail
            refine (cfollows_at (by exact hv) (by exact hv3) F1.out).mono ?_
            rintro en w15 ⟨rfl, b15⟩
            have hA := BlkAt.below (by exact hA) b15
            have hC := BlkAt.below (by exact hC) b15
            have hD := BlkAt.below (by exact hD) b15
            have hE := BlkAt.below (by exact hE) b15
            have hv := hv.below b15
            have hv3 := hv3.below b15
            have hv4 := hv4.below b15
            have hv5 := hv5.below b15
            have hb := below_step hb b15
            clear fhA0 fhA1 fhC0 fhC1 b15
            have fhA0 : w15.cell? ⟨w.heap.size, 0, none⟩ = some (.int .i64 e) := hA.cell rfl
            have fhA1 : w15.cell? ⟨w.heap.size, 1, none⟩ = some (.slice a L.length cap) := hA.cell rfl
            have fhC0 : w15.cell? ⟨C, 0, none⟩ = some (.int .i64 p1) := hC.cell rfl
            have fhC1 : w15.cell? ⟨C, 1, none⟩ = some (.slice a3 L1.length cap3) := hC.cell rfl
            go_wp2_with fail
            refine (cfollows_at (by exact hv3) (by exact hv) B1.out).mono ?_
            rintro en w16 ⟨rfl, b16⟩
            have hA := BlkAt.below (by exact hA) b16
            have hC := BlkAt.below (by exact hC) b16
            have hD := BlkAt.below (by exact hD) b16
            have hE := BlkAt.below (by exact hE) b16
            have hv := hv.below b16
            have hv3 := hv3.below b16
            have hv4 := hv4.below b16
            have hv5 := hv5.below b16
            have hb := below_step hb b16
            clear fhA0 fhA1 fhC0 fhC1 b16
            have fhD0 : w16.cell? ⟨D, 0, none⟩ = some (.int .i64 p2) := hD.cell rfl
            have fhD1 : w16.cell? ⟨D, 1, none⟩ = some (.slice a4 L2.length cap4) := hD.cell rfl
            go_wp2_with fail
            refine (cright_at (by exact hv4) R2.out).mono ?_
            rintro en w17 ⟨rfl, b17⟩
            have hA := BlkAt.below (by exact hA) b17
            have hC := BlkAt.below (by exact hC) b17
            have hD := BlkAt.below (by exact hD) b17
            have hE := BlkAt.below (by exact hE) b17
            have hv := hv.below b17
            have hv3 := hv3.below b17
            have hv4 := hv4.below b17
            have hv5 := hv5.below b17
            have hb := below_step hb b17
            clear fhD0 fhD1 b17
            have fhA0 : w17.cell? ⟨w.heap.size, 0, none⟩ = some (.int .i64 e) := hA.cell rfl
            have fhA1 : w17.cell? ⟨w.heap.size, 1, none⟩ = some (.slice a L.length cap) := hA.cell rfl
            have fhD0 : w17.cell? ⟨D, 0, none⟩ = some (.int .i64 p2) := hD.cell rfl
            have fhD1 : w17.cell? ⟨D, 1, none⟩ = some (.slice a4 L2.length cap4) := hD.cell rfl
            go_wp2_with fail
            refine (cfollows_at (by exact hv) (by exact hv4) F2.out).mono ?_
            rintro en w18 ⟨rfl, b18⟩
            have hA := BlkAt.below (by exact hA) b18
            have hC := BlkAt.below (by exact hC) b18
            have hD := BlkAt.below (by exact hD) b18
            have hE := BlkAt.below (by exact hE) b18
            have hv := hv.below b18
            have hv3 := hv3.below b18
            have hv4 := hv4.below b18
            have hv5 := hv5.below b18
            have hb := below_step hb b18
            clear fhA0 fhA1 fhD0 fhD1 b18
            have fhA0 : w18.cell? ⟨w.heap.size, 0, none⟩ = some (.int .i64 e) := hA.cell rfl
            have fhA1 : w18.cell? ⟨w.heap.size, 1, none⟩ = some (.slice a L.length cap) := hA.cell rfl
            have fhD0 : w18.cell? ⟨D, 0, none⟩ = some (.int .i64 p2) := hD.cell rfl
            have fhD1 : w18.cell? ⟨D, 1, none⟩ = some (.slice a4 L2.length cap4) := hD.cell rfl
            go_wp2_with fail
            refine (cfollows_at (by exact hv4) (by exact hv) B2.out).mono ?_
            rintro en w19 ⟨rfl, b19⟩
            have hA := BlkAt.below (by exact hA) b19
            have hC := BlkAt.below (by exact hC) b19
            have hD := BlkAt.below (by exact hD) b19
            have hE := BlkAt.below (by exact hE) b19
            have hv := hv.below b19
            have hv3 := hv3.below b19
            have hv4 := hv4.below b19
            have hv5 := hv5.below b19
            have hb := below_step hb b19
            clear fhA0 fhA1 fhD0 fhD1 b19
            go_wp2_with fail
            go_ret
            exact ⟨rfl, hb⟩
        · have z2 : (x2 != 0) = true := by simpa using e2
          by_cases e3 : x3 = 0
          · subst e3
            have R3 := Lib.hid (synced_right HS.out)
            have F3 := Lib.hid (follows_synced HS.out)
            have B3 := Lib.hid (synced_not_back HS.out)
            have fhC0 : v13_4.cell? ⟨C, 0, none⟩ = some (.int .i64 p1) := hC.cell rfl
            have fhC1 : v13_4.cell? ⟨C, 1, none⟩ = some (.slice a3 L1.length cap3) := hC.cell rfl
            go_wp2_with fail
            refine (cright_at (by exact hv3) R1.out).mono ?_
            rintro en w14 ⟨rfl, b14⟩
            have hA := BlkAt.below (by exact hA) b14
            have hC := BlkAt.below (by exact hC) b14
            have hD := BlkAt.below (by exact hD) b14
            have hE := BlkAt.below (by exact hE) b14
            have hv := hv.below b14
            have hv3 := hv3.below b14
            have hv4 := hv4.below b14
            have hv5 := hv5.below b14
            have hb := below_step hb b14
            clear fhC0 fhC1 b14
            have fhA0 : w14.cell? ⟨w.heap.size, 0, none⟩ = some (.int .i64 e) := hA.cell rfl
            have fhA1 : w14.cell? ⟨w.heap.size, 1, none⟩ = some (.slice a L.length cap) := hA.cell rfl
            have fhC0 : w14.cell? ⟨C, 0, none⟩ = some (.int .i64 p1) := hC.cell rfl
            have fhC1 : w14.cell? ⟨C, 1, none⟩ = some (.slice a3 L1.length cap3) := hC.cell rfl
            go_wp2_with fail
            refine (cfollows_at (by exact hv) (by exact hv3) F1.out).mono ?_
            rintro en w15 ⟨rfl, b15⟩
            have hA := BlkAt.below (by exact hA) b15
            have hC := BlkAt.below (by exact hC) b15
            have hD := BlkAt.below (by exact hD) b15
            have hE := BlkAt.below (by exact hE) b15
            have hv := hv.below b15
            have hv3 := hv3.below b15
            have hv4 := hv4.below b15
            have hv5 := hv5.below b15
            have hb := below_step hb b15
            clear fhA0 fhA1 fhC0 fhC1 b15
            have fhA0 : w15.cell? ⟨w.heap.size, 0, none⟩ = some (.int .i64 e) := hA.cell rfl
            have fhA1 : w15.cell? ⟨w.heap.size, 1, none⟩ = some (.slice a L.length cap) := hA.cell rfl
            have fhC0 : w15.cell? ⟨C, 0, none⟩ = some (.int .i64 p1) := hC.cell rfl
            have fhC1 : w15.cell? ⟨C, 1, none⟩ = some (.slice a3 L1.length cap3) := hC.cell rfl
            go_wp2_with fail
            refine (cfollows_at (by exact hv3) (by exact hv) B1.out).mono ?_
            rintro en w16 ⟨rfl, b16⟩
            have hA := BlkAt.below (by exact hA) b16
            have hC := BlkAt.below (by exact hC) b16
            have hD := BlkAt.below (by exact hD) b16
            have hE := BlkAt.below (by exact hE) b16
            have hv := hv.below b16
            have hv3 := hv3.below b16
            have hv4 := hv4.below b16
            have hv5 := hv5.below b16
            have hb := below_step hb b16
            clear fhA0 fhA1 fhC0 fhC1 b16
            have fhE0 : w16.cell? ⟨E, 0, none⟩ = some (.int .i64 p3) := hE.cell rfl
            have fhE1 : w16.cell? ⟨E, 1, none⟩ = some (.slice a5 L3.length cap5) := hE.cell rfl
            go_wp2_with fail
            refine (cright_at (by exact hv5) R3.out).mono ?_
            rintro en w17 ⟨rfl, b17⟩
            have hA := BlkAt.below (by exact hA) b17
            have hC := BlkAt.below (by exact hC) b17
            have hD := BlkAt.below (by exact hD) b17
            have hE := BlkAt.below (by exact hE) b17
            have hv := hv.below b17
            have hv3 := hv3.below b17
            have hv4 := hv4.below b17
            have hv5 := hv5.below b17
            have hb := below_step hb b17
            clear fhE0 fhE1 b17
            have fhA0 : w17.cell? ⟨w.heap.size, 0, none⟩ = some (.int .i64 e) := hA.cell rfl
            have fhA1 : w17.cell? ⟨w.heap.size, 1, none⟩ = some (.slice a L.length cap) := hA.cell rfl
            have fhE0 : w17.cell? ⟨E, 0, none⟩ = some (.int .i64 p3) := hE.cell rfl
            have fhE1 : w17.cell? ⟨E, 1, none⟩ = some (.slice a5 L3.length cap5) := hE.cell rfl
            go_wp2_with fail
            refine (cfollows_at (by exact hv) (by exact hv5) F3.out).mono ?_
            rintro en w18 ⟨rfl, b18⟩
            have hA := BlkAt.below (by exact hA) b18
            have hC := BlkAt.below (by exact hC) b18
            have hD := BlkAt.below (by exact hD) b18
            have hE := BlkAt.below (by exact hE) b18
            have hv := hv.below b18
            have hv3 := hv3.below b18
            have hv4 := hv4.below b18
            have hv5 := hv5.below b18
            have hb := below_step hb b18
            clear fhA0 fhA1 fhE0 fhE1 b18
            have fhA0 : w18.cell? ⟨w.heap.size, 0, none⟩ = some (.int .i64 e) := hA.cell rfl
            have fhA1 : w18.cell? ⟨w.heap.size, 1, none⟩ = some (.slice a L.length cap) := hA.cell rfl
            have fhE0 : w18.cell? ⟨E, 0, none⟩ = some (.int .i64 p3) := hE.cell rfl
            have fhE1 : w18.cell? ⟨E, 1, none⟩ = some (.slice a5 L3.length cap5) := hE.cell rfl
            go_wp2_with fail
            refine (cfollows_at (by exact hv5) (by exact hv) B3.out).mono ?_
            rintro en w19 ⟨rfl, b19⟩
            have hA := BlkAt.below (by exact hA) b19
            have hC := BlkAt.below (by exact hC) b19
            have hD := BlkAt.below (by exact hD) b19
            have hE := BlkAt.below (by exact hE) b19
            have hv := hv.below b19
            have hv3 := hv3.below b19
            have hv4 := hv4.below b19
            have hv5 := hv5.below b19
            have hb := below_step hb b19
            clear fhA0 fhA1 fhE0 fhE1 b19
            go_wp2_with fail
            go_ret
            exact ⟨rfl, hb⟩
          · have z3 : (x3 != 0) = true := by simpa using e3
            have fhC0 : v13_4.cell? ⟨C, 0, none⟩ = some (.int .i64 p1) := hC.cell rfl
            have fhC1 : v13_4.cell? ⟨C, 1, none⟩ = some (.slice a3 L1.length cap3) := hC.cell rfl
            go_wp2_with fail
            refine (cright_at (by exact hv3) R1.out).mono ?_
            rintro en w14 ⟨rfl, b14⟩
            have hA := BlkAt.below (by exact hA) b14
            have hC := BlkAt.below (by exact hC) b14
            have hD := BlkAt.below (by exact hD) b14
            have hE := BlkAt.below (by exact hE) b14
            have hv := hv.below b14
            have hv3 := hv3.below b14
            have hv4 := hv4.below b14
            have hv5 := hv5.below b14
            have hb := below_step hb b14
            clear fhC0 fhC1 b14
            have fhA0 : w14.cell? ⟨w.heap.size, 0, none⟩ = some (.int .i64 e) := hA.cell rfl
            have fhA1 : w14.cell? ⟨w.heap.size, 1, none⟩ = some (.slice a L.length cap) := hA.cell rfl
            have fhC0 : w14.cell? ⟨C, 0, none⟩ = some (.int .i64 p1) := hC.cell rfl
            have fhC1 : w14.cell? ⟨C, 1, none⟩ = some (.slice a3 L1.length cap3) := hC.cell rfl
            go_wp2_with fail
            refine (cfollows_at (by exact hv) (by exact hv3) F1.out).mono ?_
            rintro en w15 ⟨rfl, b15⟩
            have hA := BlkAt.below (by exact hA) b15
            have hC := BlkAt.below (by exact hC) b15
            have hD := BlkAt.below (by exact hD) b15
            have hE := BlkAt.below (by exact hE) b15
            have hv := hv.below b15
            have hv3 := hv3.below b15
            have hv4 := hv4.below b15
            have hv5 := hv5.below b15
            have hb := below_step hb b15
            clear fhA0 fhA1 fhC0 fhC1 b15
            have fhA0 : w15.cell? ⟨w.heap.size, 0, none⟩ = some (.int .i64 e) := hA.cell rfl
            have fhA1 : w15.cell? ⟨w.heap.size, 1, none⟩ = some (.slice a L.length cap) := hA.cell rfl
            have fhC0 : w15.cell? ⟨C, 0, none⟩ = some (.int .i64 p1) := hC.cell rfl
            have fhC1 : w15.cell? ⟨C, 1, none⟩ = some (.slice a3 L1.length cap3) := hC.cell rfl
            go_wp2_with fail
            refine (cfollows_at (by exact hv3) (by exact hv) B1.out).mono ?_
            rintro en w16 ⟨rfl, b16⟩
            have hA := BlkAt.below (by exact hA) b16
            have hC := BlkAt.below (by exact hC) b16
            have hD := BlkAt.below (by exact hD) b16
            have hE := BlkAt.below (by exact hE) b16
            have hv := hv.below b16
            have hv3 := hv3.below b16
            have hv4 := hv4.below b16
            have hv5 := hv5.below b16
            have hb := below_step hb b16
            clear fhA0 fhA1 fhC0 fhC1 b16
            go_wp2_with fail
            go_ret
            exact ⟨rfl, hb⟩
      · have z1 : (x1 != 0) = true := by simpa using e1
        by_cases e2 : x2 = 0
        · subst e2
          have R2 := Lib.hid (join_right HJ.out)
          have F2 := Lib.hid (follows_join HJ.out)
          have B2 := Lib.hid (not_back (join_epoch HJ.out))
          by_cases e3 : x3 = 0
          · subst e3
            have R3 := Lib.hid (synced_right HS.out)
            have F3 := Lib.hid (follows_synced HS.out)
            have B3 := Lib.hid (synced_not_back HS.out)
            have fhD0 : v13_4.cell? ⟨D, 0, none⟩ = some (.int .i64 p2) := hD.cell rfl
            have fhD1 : v13_4.cell? ⟨D, 1, none⟩ = some (.slice a4 L2.length cap4) := hD.cell rfl
            go_wp2_with fail
            refine (cright_at (by exact hv4) R2.out).mono ?_
            rintro en w14 ⟨rfl, b14⟩
            have hA := BlkAt.below (by exact hA) b14
            have hC := BlkAt.below (by exact hC) b14
            have hD := BlkAt.below (by exact hD) b14
            have hE := BlkAt.below (by exact hE) b14
            have hv := hv.below b14
            have hv3 := hv3.below b14
            have hv4 := hv4.below b14
            have hv5 := hv5.below b14
            have hb := below_step hb b14
            clear fhD0 fhD1 b14
            have fhA0 : w14.cell? ⟨w.heap.size, 0, none⟩ = some (.int .i64 e) := hA.cell rfl
            have fhA1 : w14.cell? ⟨w.heap.size, 1, none⟩ = some (.slice a L.length cap) := hA.cell rfl
            have fhD0 : w14.cell? ⟨D, 0, none⟩ = some (.int .i64 p2) := hD.cell rfl
            have fhD1 : w14.cell? ⟨D, 1, none⟩ = some (.slice a4 L2.length cap4) := hD.cell rfl
            go_wp2_with fail
            refine (cfollows_at (by exact hv) (by exact hv4) F2.out).mono ?_
            rintro en w15 ⟨rfl, b15⟩
            have hA := BlkAt.below (by exact hA) b15
            have hC := BlkAt.below (by exact hC) b15
            have hD := BlkAt.below (by exact hD) b15
            have hE := BlkAt.below (by exact hE) b15
            have hv := hv.below b15
            have hv3 := hv3.below b15
            have hv4 := hv4.below b15
            have hv5 := hv5.below b15
            have hb := below_step hb b15
            clear fhA0 fhA1 fhD0 fhD1 b15
            have fhA0 : w15.cell? ⟨w.heap.size, 0, none⟩ = some (.int .i64 e) := hA.cell rfl
            have fhA1 : w15.cell? ⟨w.heap.size, 1, none⟩ = some (.slice a L.length cap) := hA.cell rfl
            have fhD0 : w15.cell? ⟨D, 0, none⟩ = some (.int .i64 p2) := hD.cell rfl
            have fhD1 : w15.cell? ⟨D, 1, none⟩ = some (.slice a4 L2.length cap4) := hD.cell rfl
            go_wp2_with fail
            refine (cfollows_at (by exact hv4) (by exact hv) B2.out).mono ?_
            rintro en w16 ⟨rfl, b16⟩
            have hA := BlkAt.below (by exact hA) b16
            have hC := BlkAt.below (by exact hC) b16
            have hD := BlkAt.below (by exact hD) b16
            have hE := BlkAt.below (by exact hE) b16
            have hv := hv.below b16
            have hv3 := hv3.below b16
            have hv4 := hv4.below b16
            have hv5 := hv5.below b16
            have hb := below_step hb b16
            clear fhA0 fhA1 fhD0 fhD1 b16
            have fhE0 : w16.cell? ⟨E, 0, none⟩ = some (.int .i64 p3) := hE.cell rfl
            have fhE1 : w16.cell? ⟨E, 1, none⟩ = some (.slice a5 L3.length cap5) := hE.cell rfl
            go_wp2_with fail
            refine (cright_at (by exact hv5) R3.out).mono ?_
            rintro en w17 ⟨rfl, b17⟩
            have hA := BlkAt.below (by exact hA) b17
            have hC := BlkAt.below (by exact hC) b17
            have hD := BlkAt.below (by exact hD) b17
            have hE := BlkAt.below (by exact hE) b17
            have hv := hv.below b17
            have hv3 := hv3.below b17
            have hv4 := hv4.below b17
            have hv5 := hv5.below b17
            have hb := below_step hb b17
            clear fhE0 fhE1 b17
            have fhA0 : w17.cell? ⟨w.heap.size, 0, none⟩ = some (.int .i64 e) := hA.cell rfl
            have fhA1 : w17.cell? ⟨w.heap.size, 1, none⟩ = some (.slice a L.length cap) := hA.cell rfl
            have fhE0 : w17.cell? ⟨E, 0, none⟩ = some (.int .i64 p3) := hE.cell rfl
            have fhE1 : w17.cell? ⟨E, 1, none⟩ = some (.slice a5 L3.length cap5) := hE.cell rfl
            go_wp2_with fail
            refine (cfollows_at (by exact hv) (by exact hv5) F3.out).mono ?_
            rintro en w18 ⟨rfl, b18⟩
            have hA := BlkAt.below (by exact hA) b18
            have hC := BlkAt.below (by exact hC) b18
            have hD := BlkAt.below (by exact hD) b18
            have hE := BlkAt.below (by exact hE) b18
            have hv := hv.below b18
            have hv3 := hv3.below b18
            have hv4 := hv4.below b18
            have hv5 := hv5.below b18
            have hb := below_step hb b18
            clear fhA0 fhA1 fhE0 fhE1 b18
            have fhA0 : w18.cell? ⟨w.heap.size, 0, none⟩ = some (.int .i64 e) := hA.cell rfl
            have fhA1 : w18.cell? ⟨w.heap.size, 1, none⟩ = some (.slice a L.length cap) := hA.cell rfl
            have fhE0 : w18.cell? ⟨E, 0, none⟩ = some (.int .i64 p3) := hE.cell rfl
            have fhE1 : w18.cell? ⟨E, 1, none⟩ = some (.slice a5 L3.length cap5) := hE.cell rfl
            go_wp2_with fail
            refine (cfollows_at (by exact hv5) (by exact hv) B3.out).mono ?_
            rintro en w19 ⟨rfl, b19⟩
            have hA := BlkAt.below (by exact hA) b19
            have hC := BlkAt.below (by exact hC) b19
            have hD := BlkAt.below (by exact hD) b19
            have hE := BlkAt.below (by exact hE) b19
            have hv := hv.below b19
            have hv3 := hv3.below b19
            have hv4 := hv4.below b19
            have hv5 := hv5.below b19
            have hb := below_step hb b19
            clear fhA0 fhA1 fhE0 fhE1 b19
            go_wp2_with fail
            go_ret
            exact ⟨rfl, hb⟩
          · have z3 : (x3 != 0) = true := by simpa using e3
            have fhD0 : v13_4.cell? ⟨D, 0, none⟩ = some (.int .i64 p2) := hD.cell rfl
            have fhD1 : v13_4.cell? ⟨D, 1, none⟩ = some (.slice a4 L2.length cap4) := hD.cell rfl
            go_wp2_with fail
            refine (cright_at (by exact hv4) R2.out).mono ?_
            rintro en w14 ⟨rfl, b14⟩
            have hA := BlkAt.below (by exact hA) b14
            have hC := BlkAt.below (by exact hC) b14
            have hD := BlkAt.below (by exact hD) b14
            have hE := BlkAt.below (by exact hE) b14
            have hv := hv.below b14
            have hv3 := hv3.below b14
            have hv4 := hv4.below b14
            have hv5 := hv5.below b14
            have hb := below_step hb b14
            clear fhD0 fhD1 b14
            have fhA0 : w14.cell? ⟨w.heap.size, 0, none⟩ = some (.int .i64 e) := hA.cell rfl
            have fhA1 : w14.cell? ⟨w.heap.size, 1, none⟩ = some (.slice a L.length cap) := hA.cell rfl
            have fhD0 : w14.cell? ⟨D, 0, none⟩ = some (.int .i64 p2) := hD.cell rfl
            have fhD1 : w14.cell? ⟨D, 1, none⟩ = some (.slice a4 L2.length cap4) := hD.cell rfl
            go_wp2_with fail
            refine (cfollows_at (by exact hv) (by exact hv4) F2.out).mono ?_
            rintro en w15 ⟨rfl, b15⟩
            have hA := BlkAt.below (by exact hA) b15
            have hC := BlkAt.below (by exact hC) b15
            have hD := BlkAt.below (by exact hD) b15
            have hE := BlkAt.below (by exact hE) b15
            have hv := hv.below b15
            have hv3 := hv3.below b15
            have hv4 := hv4.below b15
            have hv5 := hv5.below b15
            have hb := below_step hb b15
            clear fhA0 fhA1 fhD0 fhD1 b15
            have fhA0 : w15.cell? ⟨w.heap.size, 0, none⟩ = some (.int .i64 e) := hA.cell rfl
            have fhA1 : w15.cell? ⟨w.heap.size, 1, none⟩ = some (.slice a L.length cap) := hA.cell rfl
            have fhD0 : w15.cell? ⟨D, 0, none⟩ = some (.int .i64 p2) := hD.cell rfl
            have fhD1 : w15.cell? ⟨D, 1, none⟩ = some (.slice a4 L2.length cap4) := hD.cell rfl
            go_wp2_with fail
            refine (cfollows_at (by exact hv4) (by exact hv) B2.out).mono ?_
            rintro en w16 ⟨rfl, b16⟩
            have hA := BlkAt.below (by exact hA) b16
            have hC := BlkAt.below (by exact hC) b16
            have hD := BlkAt.below (by exact hD) b16
            have hE := BlkAt.below (by exact hE) b16
            have hv := hv.below b16
            have hv3 := hv3.below b16
            have hv4 := hv4.below b16
            have hv5 := hv5.below b16
            have hb := below_step hb b16
            clear fhA0 fhA1 fhD0 fhD1 b16
            go_wp2_with fail
            go_ret
            exact ⟨rfl, hb⟩
        · have z2 : (x2 != 0) = true := by simpa using e2
          by_cases e3 : x3 = 0
          · subst e3
            have R3 := Lib.hid (synced_right HS.out)
            have F3 := Lib.hid (follows_synced HS.out)
            have B3 := Lib.hid (synced_not_back HS.out)
            have fhE0 : v13_4.cell? ⟨E, 0, none⟩ = some (.int .i64 p3) := hE.cell rfl
            have fhE1 : v13_4.cell? ⟨E, 1, none⟩ = some (.slice a5 L3.length cap5) := hE.cell rfl
            go_wp2_with fail
            refine (cright_at (by exact hv5) R3.out).mono ?_
            rintro en w14 ⟨rfl, b14⟩
            have hA := BlkAt.below (by exact hA) b14
            have hC := BlkAt.below (by exact hC) b14
            have hD := BlkAt.below (by exact hD) b14
            have hE := BlkAt.below (by exact hE) b14
            have hv := hv.below b14
            have hv3 := hv3.below b14
            have hv4 := hv4.below b14
            have hv5 := hv5.below b14
            have hb := below_step hb b14
            clear fhE0 fhE1 b14
            have fhA0 : w14.cell? ⟨w.heap.size, 0, none⟩ = some (.int .i64 e) := hA.cell rfl
            have fhA1 : w14.cell? ⟨w.heap.size, 1, none⟩ = some (.slice a L.length cap) := hA.cell rfl
            have fhE0 : w14.cell? ⟨E, 0, none⟩ = some (.int .i64 p3) := hE.cell rfl
            have fhE1 : w14.cell? ⟨E, 1, none⟩ = some (.slice a5 L3.length cap5) := hE.cell rfl
            go_wp2_with fail
            refine (cfollows_at (by exact hv) (by exact hv5) F3.out).mono ?_
            rintro en w15 ⟨rfl, b15⟩
            have hA := BlkAt.below (by exact hA) b15
            have hC := BlkAt.below (by exact hC) b15
            have hD := BlkAt.below (by exact hD) b15
            have hE := BlkAt.below (by exact hE) b15
            have hv := hv.below b15
            have hv3 := hv3.below b15
            have hv4 := hv4.below b15
            have hv5 := hv5.below b15
            have hb := below_step hb b15
            clear fhA0 fhA1 fhE0 fhE1 b15
            have fhA0 : w15.cell? ⟨w.heap.size, 0, none⟩ = some (.int .i64 e) := hA.cell rfl
            have fhA1 : w15.cell? ⟨w.heap.size, 1, none⟩ = some (.slice a L.length cap) := hA.cell rfl
            have fhE0 : w15.cell? ⟨E, 0, none⟩ = some (.int .i64 p3) := hE.cell rfl
            have fhE1 : w15.cell? ⟨E, 1, none⟩ = some (.slice a5 L3.length cap5) := hE.cell rfl
            go_wp2_with fail
            refine (cfollows_at (by exact hv5) (by exact hv) B3.out).mono ?_
            rintro en w16 ⟨rfl, b16⟩
            have hA := BlkAt.below (by exact hA) b16
            have hC := BlkAt.below (by exact hC) b16
            have hD := BlkAt.below (by exact hD) b16
            have hE := BlkAt.below (by exact hE) b16
            have hv := hv.below b16
            have hv3 := hv3.below b16
            have hv4 := hv4.below b16
            have hv5 := hv5.below b16
            have hb := below_step hb b16
            clear fhA0 fhA1 fhE0 fhE1 b16
            go_wp2_with fail
            go_ret
            exact ⟨rfl, hb⟩
          · have z3 : (x3 != 0) = true := by simpa using e3
            go_wp2_with fail
            go_ret
            exact ⟨rfl, hb⟩
  · have hfd : decide (L.length ≤ 40 ∧ M.length ≤ 40) = false := by simpa using hf
    have HF := Lib.hid hfd
    clear hfd
    have fhA0 : W.cell? ⟨w.heap.size, 0, none⟩ = some (.int .i64 e) := hA.cell rfl
    have fhA1 : W.cell? ⟨w.heap.size, 1, none⟩ = some (.slice a L.length cap) := hA.cell rfl
    have fhB0 : W.cell? ⟨B, 0, none⟩ = some (.int .i64 f) := hB.cell rfl
    have fhB1 : W.cell? ⟨B, 1, none⟩ = some (.slice a2 M.length cap2) := hB.cell rfl
    refine wp_region_noPanic ?_
    refine wp_region_held_drew (S := fun w' => w'.cell? ⟨w.heap.size, 0, none⟩ = some (.int .i64 e) ∧ w'.cell? ⟨w.heap.size, 1, none⟩ = some (.slice a L.length cap) ∧ w'.cell? ⟨B, 0, none⟩ = some (.int .i64 f) ∧ w'.cell? ⟨B, 1, none⟩ = some (.slice a2 M.length cap2)) (by kernel_rfl) (by exact ⟨fhA0, fhA1, fhB0, fhB1⟩) (fun hHeld => ?_)
    have hb := below_drewN hb 1
    refine wpAnyH_ready (rs := [0]) (by kernel_rfl) (by simp) (AllReadyH.cons (o := ?oq0) ?op0 (fun K hK => ?re0) AllReadyH.nil)
    case op0 => (simp only [List.getElem?_toArray, List.getElem?_cons_zero]; rfl)
    go_simp
    go_at_call 10
    refine (awake_any _).mono ?_
    rintro en z_1 ⟨rfl, bz⟩
    have hA := BlkAt.below (by exact hA) bz
    have hB := BlkAt.below (by exact hB) bz
    have hv := ChainAt.below (by exact hv) bz
    have hu := ChainAt.below (by exact hu) bz
    have hb := below_step hb bz
    have fhA0 : z_1.cell? ⟨w.heap.size, 0, none⟩ = some (.int .i64 e) := hA.cell rfl
    have fhA1 : z_1.cell? ⟨w.heap.size, 1, none⟩ = some (.slice a L.length cap) := hA.cell rfl
    have fhB0 : z_1.cell? ⟨B, 0, none⟩ = some (.int .i64 f) := hB.cell rfl
    have fhB1 : z_1.cell? ⟨B, 1, none⟩ = some (.slice a2 M.length cap2) := hB.cell rfl
    clear bz
    refine hK.out _ _ (by exact ⟨fhA0, fhA1, fhB0, fhB1⟩) (fun hHeld => ?_)
    clear hK K
    try simp only [Act.put, List.setIfInBounds_toArray, List.set_cons_zero, List.set_cons_succ]
    refine wpAnyH_take (i := 1) (oi := ?oq1) (v := ?va1) ?op1 (by kernel_rfl) (by kernel_rfl) (by kernel_rfl) (fun _ _ _ h => h) ?yi1 hHeld ?re1
    case op1 => (simp only [List.getElem?_toArray, List.getElem?_cons_succ, List.getElem?_cons_zero]; rfl)
    case yi1 =>
      refine Or.inl ⟨by rfl, ?_⟩
      intro w hSw
      try dsimp only at hSw
      go_simp
      all_goals with_reducible rfl
    try simp only [Act.put, List.setIfInBounds_toArray, List.set_cons_zero, List.set_cons_succ]
    refine wpAnyH_take (i := 2) (oi := ?oq2) (v := ?va2) ?op2 (by kernel_rfl) (by kernel_rfl) (by kernel_rfl) (fun _ _ _ h => h) ?yi2 hHeld ?re2
    case op2 => (simp only [List.getElem?_toArray, List.getElem?_cons_succ, List.getElem?_cons_zero]; rfl)
    case yi2 =>
      refine Or.inl ⟨by rfl, ?_⟩
      intro w hSw
      try dsimp only at hSw
      go_simp
      all_goals with_reducible rfl
    try simp only [Act.put, List.setIfInBounds_toArray, List.set_cons_zero, List.set_cons_succ]
    refine wpAnyH_take (i := 3) (oi := ?oq3) (v := ?va3) ?op3 (by kernel_rfl) (by kernel_rfl) (by kernel_rfl) (fun _ _ _ h => h) ?yi3 hHeld ?re3
    case op3 => (simp only [List.getElem?_toArray, List.getElem?_cons_succ, List.getElem?_cons_zero]; rfl)
    case yi3 =>
      refine Or.inl ⟨by rfl, ?_⟩
      intro w hSw
      try dsimp only at hSw
      go_simp
      all_goals with_reducible rfl
    try simp only [Act.put, List.setIfInBounds_toArray, List.set_cons_zero, List.set_cons_succ]
    refine wpAnyH_take (i := 4) (oi := ?oq4) (v := ?va4) ?op4 (by kernel_rfl) (by kernel_rfl) (by kernel_rfl) (fun _ _ _ h => h) ?yi4 hHeld ?re4
    case op4 => (simp only [List.getElem?_toArray, List.getElem?_cons_succ, List.getElem?_cons_zero]; rfl)
    case yi4 =>
      refine Or.inl ⟨by rfl, ?_⟩
      intro w hSw
      try dsimp only at hSw
      go_simp
      all_goals with_reducible rfl
    try simp only [Act.put, List.setIfInBounds_toArray, List.set_cons_zero, List.set_cons_succ]
    refine wpAnyH_ready (rs := [5]) (by kernel_rfl) (by simp) (AllReadyH.cons (o := ?oq5) ?op5 (fun K hK => ?re5) AllReadyH.nil)
    case op5 => (simp only [List.getElem?_toArray, List.getElem?_cons_succ, List.getElem?_cons_zero]; rfl)
    go_simp
    have hS := BlkAt.new z_1 24 [.int .i64 e, .slice a L.length cap, .int .i64 f, .slice a2 M.length cap2]
    have hA := hA.alloc (.cells #[.int .i64 e, .slice a L.length cap, .int .i64 f, .slice a2 M.length cap2] 24)
    have hB := hB.alloc (.cells #[.int .i64 e, .slice a L.length cap, .int .i64 f, .slice a2 M.length cap2] 24)
    have hv := hv.alloc (.cells #[.int .i64 e, .slice a L.length cap, .int .i64 f, .slice a2 M.length cap2] 24)
    have hu := hu.alloc (.cells #[.int .i64 e, .slice a L.length cap, .int .i64 f, .slice a2 M.length cap2] 24)
    have hb := hb.alloc hb.size (.cells #[.int .i64 e, .slice a L.length cap, .int .i64 f, .slice a2 M.length cap2] 24)
    have fhA0 : (z_1.alloc (.cells #[.int .i64 e, .slice a L.length cap, .int .i64 f, .slice a2 M.length cap2] 24)).cell? ⟨w.heap.size, 0, none⟩ = some (.int .i64 e) := hA.cell rfl
    have fhA1 : (z_1.alloc (.cells #[.int .i64 e, .slice a L.length cap, .int .i64 f, .slice a2 M.length cap2] 24)).cell? ⟨w.heap.size, 1, none⟩ = some (.slice a L.length cap) := hA.cell rfl
    have fhB0 : (z_1.alloc (.cells #[.int .i64 e, .slice a L.length cap, .int .i64 f, .slice a2 M.length cap2] 24)).cell? ⟨B, 0, none⟩ = some (.int .i64 f) := hB.cell rfl
    have fhB1 : (z_1.alloc (.cells #[.int .i64 e, .slice a L.length cap, .int .i64 f, .slice a2 M.length cap2] 24)).cell? ⟨B, 1, none⟩ = some (.slice a2 M.length cap2) := hB.cell rfl
    refine hK.out _ _ (by exact ⟨fhA0, fhA1, fhB0, fhB1⟩) (fun hHeld => ?_)
    clear hK K
    try simp only [Act.put, List.setIfInBounds_toArray, List.set_cons_zero, List.set_cons_succ]
    refine wpAnyH_ready (rs := [6]) (by kernel_rfl) (by simp) (AllReadyH.cons (o := ?oq6) ?op6 (fun K hK => ?re6) AllReadyH.nil)
    case op6 => (simp only [List.getElem?_toArray, List.getElem?_cons_succ, List.getElem?_cons_zero]; rfl)
    go_simp
    go_at_call 11
    refine (few_two_is (by exact hS) (by exact hv) (by exact hu) HF.out).mono ?_
    rintro en z_3 ⟨rfl, bz⟩
    have hA := BlkAt.below (by exact hA) bz
    have hB := BlkAt.below (by exact hB) bz
    have hv := ChainAt.below (by exact hv) bz
    have hu := ChainAt.below (by exact hu) bz
    have hb := below_step hb bz
    have fhA0 : z_3.cell? ⟨w.heap.size, 0, none⟩ = some (.int .i64 e) := hA.cell rfl
    have fhA1 : z_3.cell? ⟨w.heap.size, 1, none⟩ = some (.slice a L.length cap) := hA.cell rfl
    have fhB0 : z_3.cell? ⟨B, 0, none⟩ = some (.int .i64 f) := hB.cell rfl
    have fhB1 : z_3.cell? ⟨B, 1, none⟩ = some (.slice a2 M.length cap2) := hB.cell rfl
    clear bz
    refine hK.out _ _ (by exact ⟨fhA0, fhA1, fhB0, fhB1⟩) (fun hHeld => ?_)
    clear hK K
    try simp only [Act.put, List.setIfInBounds_toArray, List.set_cons_zero, List.set_cons_succ]
    refine wpAnyH_take (i := 7) (oi := ?oq7) (v := ?va7) ?op7 (by kernel_rfl) (by kernel_rfl) (by kernel_rfl) (fun _ _ _ h => h) ?yi7 hHeld ?re7
    case op7 => (simp only [List.getElem?_toArray, List.getElem?_cons_succ, List.getElem?_cons_zero]; rfl)
    case yi7 =>
      refine Or.inl ⟨by rfl, ?_⟩
      intro w hSw
      try dsimp only at hSw
      go_simp
      all_goals with_reducible rfl
    try simp only [Act.put, List.setIfInBounds_toArray, List.set_cons_zero, List.set_cons_succ]
    refine wpAnyH_take (i := 8) (oi := ?oq8) (v := ?va8) ?op8 (by kernel_rfl) (by kernel_rfl) (by kernel_rfl) (fun _ _ _ h => h) ?yi8 hHeld ?re8
    case op8 => (simp only [List.getElem?_toArray, List.getElem?_cons_succ, List.getElem?_cons_zero]; rfl)
    case yi8 =>
      refine Or.inl ⟨by rfl, ?_⟩
      intro w hSw
      try dsimp only at hSw
      go_simp
      all_goals with_reducible rfl
    try simp only [Act.put, List.setIfInBounds_toArray, List.set_cons_zero, List.set_cons_succ]
    refine wpAnyH_take (i := 9) (oi := ?oq9) (v := ?va9) ?op9 (by kernel_rfl) (by kernel_rfl) (by kernel_rfl) (fun _ _ _ h => h) ?yi9 hHeld ?re9
    case op9 => (simp only [List.getElem?_toArray, List.getElem?_cons_succ, List.getElem?_cons_zero]; rfl)
    case yi9 =>
      refine Or.inl ⟨by rfl, ?_⟩
      intro w hSw
      try dsimp only at hSw
      go_simp
      all_goals with_reducible rfl
    try simp only [Act.put, List.setIfInBounds_toArray, List.set_cons_zero, List.set_cons_succ]
    refine wpAnyH_take (i := 10) (oi := ?oq10) (v := undef) ?op10 (by kernel_rfl) (by kernel_rfl) (by kernel_rfl) (fun _ _ _ h => h) ?yi10 hHeld ?re10
    case op10 => (simp only [List.getElem?_toArray, List.getElem?_cons_succ, List.getElem?_cons_zero]; rfl)
    case yi10 => exact Or.inr ⟨by rfl, rfl⟩
    try simp only [Act.put, List.setIfInBounds_toArray, List.set_cons_zero, List.set_cons_succ]
    refine wpAnyH_take (i := 11) (oi := ?oq11) (v := undef) ?op11 (by kernel_rfl) (by kernel_rfl) (by kernel_rfl) (fun _ _ _ h => h) ?yi11 hHeld ?re11
    case op11 => (simp only [List.getElem?_toArray, List.getElem?_cons_succ, List.getElem?_cons_zero]; rfl)
    case yi11 => exact Or.inr ⟨by rfl, rfl⟩
    try simp only [Act.put, List.setIfInBounds_toArray, List.set_cons_zero, List.set_cons_succ]
    refine wpAnyH_take (i := 12) (oi := ?oq12) (v := undef) ?op12 (by kernel_rfl) (by kernel_rfl) (by kernel_rfl) (fun _ _ _ h => h) ?yi12 hHeld ?re12
    case op12 => (simp only [List.getElem?_toArray, List.getElem?_cons_succ, List.getElem?_cons_zero]; rfl)
    case yi12 => exact Or.inr ⟨by rfl, rfl⟩
    try simp only [Act.put, List.setIfInBounds_toArray, List.set_cons_zero, List.set_cons_succ]
    refine wpAnyH_take (i := 13) (oi := ?oq13) (v := undef) ?op13 (by kernel_rfl) (by kernel_rfl) (by kernel_rfl) (fun _ _ _ h => h) ?yi13 hHeld ?re13
    case op13 => (simp only [List.getElem?_toArray, List.getElem?_cons_succ, List.getElem?_cons_zero]; rfl)
    case yi13 => exact Or.inr ⟨by rfl, rfl⟩
    try simp only [Act.put, List.setIfInBounds_toArray, List.set_cons_zero, List.set_cons_succ]
    refine wpAnyH_take (i := 14) (oi := ?oq14) (v := undef) ?op14 (by kernel_rfl) (by kernel_rfl) (by kernel_rfl) (fun _ _ _ h => h) ?yi14 hHeld ?re14
    case op14 => (simp only [List.getElem?_toArray, List.getElem?_cons_succ, List.getElem?_cons_zero]; rfl)
    case yi14 => exact Or.inr ⟨by rfl, rfl⟩
    try simp only [Act.put, List.setIfInBounds_toArray, List.set_cons_zero, List.set_cons_succ]
    refine wpAnyH_take (i := 15) (oi := ?oq15) (v := undef) ?op15 (by kernel_rfl) (by kernel_rfl) (by kernel_rfl) (fun _ _ _ h => h) ?yi15 hHeld ?re15
    case op15 => (simp only [List.getElem?_toArray, List.getElem?_cons_succ, List.getElem?_cons_zero]; rfl)
    case yi15 => exact Or.inr ⟨by rfl, rfl⟩
    try simp only [Act.put, List.setIfInBounds_toArray, List.set_cons_zero, List.set_cons_succ]
    refine wpAnyH_take (i := 16) (oi := ?oq16) (v := undef) ?op16 (by kernel_rfl) (by kernel_rfl) (by kernel_rfl) (fun _ _ _ h => h) ?yi16 hHeld ?re16
    case op16 => (simp only [List.getElem?_toArray, List.getElem?_cons_succ, List.getElem?_cons_zero]; rfl)
    case yi16 => exact Or.inr ⟨by rfl, rfl⟩
    try simp only [Act.put, List.setIfInBounds_toArray, List.set_cons_zero, List.set_cons_succ]
    refine wpAnyH_take (i := 17) (oi := ?oq17) (v := ?va17) ?op17 (by kernel_rfl) (by kernel_rfl) (by kernel_rfl) (fun _ _ _ h => h) ?yi17 hHeld ?re17
    case op17 => (simp only [List.getElem?_toArray, List.getElem?_cons_succ, List.getElem?_cons_zero]; rfl)
    case yi17 =>
      refine Or.inl ⟨by rfl, ?_⟩
      intro w hSw
      try dsimp only at hSw
      go_simp
      all_goals with_reducible rfl
    try simp only [Act.put, List.setIfInBounds_toArray, List.set_cons_zero, List.set_cons_succ]
    refine wpAnyH_done (by kernel_rfl) ?_ _
    refine NoPanic.normal ?_
    clear fhA0 fhA1 fhB0 fhB1
    go_wp2_with fail
    refine (awake_any _).mono ?_
    rintro en w61 ⟨rfl, b61⟩
    have hA := BlkAt.below (by exact hA) b61
    have hB := BlkAt.below (by exact hB) b61
    have hv := hv.below b61
    have hu := hu.below b61
    have hb := below_step hb b61
    clear b61
    have fhA0 : w61.cell? ⟨w.heap.size, 0, none⟩ = some (.int .i64 e) := hA.cell rfl
    have fhA1 : w61.cell? ⟨w.heap.size, 1, none⟩ = some (.slice a L.length cap) := hA.cell rfl
    have fhB0 : w61.cell? ⟨B, 0, none⟩ = some (.int .i64 f) := hB.cell rfl
    have fhB1 : w61.cell? ⟨B, 1, none⟩ = some (.slice a2 M.length cap2) := hB.cell rfl
    go_wp2_with fail
    refine (few_two_is (by exact BlkAt.new _ 24 [.int .i64 e, .slice a L.length cap, .int .i64 f, .slice a2 M.length cap2]) (by exact hv.alloc _) (by exact hu.alloc _) HF.out).mono ?_
    rintro en w62 ⟨rfl, b62⟩
    have hA := BlkAt.below (by exact hA.alloc (.cells #[.int .i64 e, .slice a L.length cap, .int .i64 f, .slice a2 M.length cap2] 24)) b62
    have hB := BlkAt.below (by exact hB.alloc (.cells #[.int .i64 e, .slice a L.length cap, .int .i64 f, .slice a2 M.length cap2] 24)) b62
    have hv := (hv.alloc (.cells #[.int .i64 e, .slice a L.length cap, .int .i64 f, .slice a2 M.length cap2] 24)).below b62
    have hu := (hu.alloc (.cells #[.int .i64 e, .slice a L.length cap, .int .i64 f, .slice a2 M.length cap2] 24)).below b62
    have hb := below_step (hb.alloc hb.size (.cells #[.int .i64 e, .slice a L.length cap, .int .i64 f, .slice a2 M.length cap2] 24)) b62
    clear fhA0 fhA1 fhB0 fhB1 b62
    go_wp2_with fail
    go_ret
    exact ⟨rfl, hb⟩

set_option maxRecDepth 100000 in
theorem ConfigFollows_walk {H : Type} {enc : TypeId × Value → H} {base : Nat} {d d2 : DataW H} {p p2 : List MemPlace} (v v2 : Value) (x y : Int) (w : World) (hv : Value.okWide Try.prog w .any base 24 v) (ht : DataW.Trod enc Try.prog w 0 (fun _ => true) true 24 v d p)
    (hv2 : Value.okWide Try.prog w .any base 24 v2) (ht2 : DataW.Trod enc Try.prog w 0 (fun _ => true) true 24 v2 d2 p2) (hx : W64 x) (hy : W64 y) :
    Calls Try.prog 4 #[v, v2, .agg #[.int .i64 x, .int .i64 y]] w fun e w' => e = .returned (.bool true) ∧ Below w.heap.size w w' := by
  obtain ⟨e, a, cap, L, he, hc, rfl⟩ := open_conf hv ht
  obtain ⟨f, a2, cap2, M, hf, hc2, rfl⟩ := open_conf hv2 ht2
  exact ConfigFollows_go hc hc2 hx hy


set_option maxRecDepth 100000 in
theorem ConfigFollows_calls (H : Type) (enc : TypeId × Value → H) (W : World) (base : Nat) (args : Array Value) (ds gs : List (DataW H)) (before : List MemPlace)
    (hval : ∀ (j : Nat) t v, Try.f4.params[j]? = some t → args[j]? = some v → Value.okWide Try.prog W .any base t v)
    (hW : DataW.Whole enc Try.prog Try.f4.params.toList Rows.configFollowsSpec.vars false W args.toList ds gs before) :
    Calls Try.prog 4 args W fun e W' => e = .returned (.bool true) ∧ Below W.heap.size W W' := by
  obtain ⟨p, q, hA, hV, rfl, hfz, hnd⟩ := hW
  rw [Try.params4] at hA hval
  obtain ⟨v0, vs0, d0, ds0, p0, q0, hargs, rfl, rfl, h0, r0⟩ := trodAll_cons hA
  obtain ⟨v1, vs1, d1, ds1, p1, q1, rfl, rfl, rfl, h1, r1⟩ := trodAll_cons r0
  obtain ⟨v2, vs2, d2, ds2, p2, q2, rfl, rfl, rfl, h2, r2⟩ := trodAll_cons r1
  obtain ⟨rfl, rfl, rfl⟩ := trodAll_nil r2
  obtain rfl : args = #[v0, v1, v2] := Array.toList_inj.1 hargs
  obtain ⟨c2, e2, z2, z2_, m2, rfl, rfl, rfl, hz2, hz2_⟩ := Joins.open_agg2 Try.underlying27 (by kernel_rfl) (by kernel_rfl) (hval 2 27 v2 rfl rfl) h2
  obtain ⟨x2, g2, rfl, w2⟩ := DataW.trod_int Try.underlying3 hz2
  obtain ⟨y2, g2_, rfl, w2_⟩ := DataW.trod_int Try.underlying3 hz2_
  simp at g2 g2_; subst g2 g2_
  exact ConfigFollows_walk v0 v1 x2 y2 W (hval 0 24 v0 rfl rfl) h0 (hval 1 24 v1 rfl rfl) h1 w2 w2_

set_option maxRecDepth 100000 in
theorem ConfigFollows_lifted (os : Os) (started : os.Started) (H : Type) (enc : TypeId × Value → H) :
    ReturnsInHanded {} Try.checked os 4 .any (Rows.configFollowsSpec.pre6 enc Try.prog Try.f4 Rows.configFollowsRow.domain false) (Rows.configFollowsSpec.post enc Try.prog Try.f4 false true false false) := by
  refine returnsInHanded_of_change (C := Try.checked) own started (by kernel_rfl) Try.func4
    (ChangeSpec.witness6 (enc := enc) (C := Try.checked) false ⟨#[], #[.agg #[.int .i64 0, .slice none 0 0], .agg #[.int .i64 0, .slice none 0 0], .agg #[.int .i64 0, .int .i64 0]], []⟩ 8 (by kernel_rfl) (by kernel_rfl) (by kernel_rfl) (by kernel_rfl)) ?_
  intro W base args ds gs before hval0 hW hcnd _
  have hval : ∀ (j : Nat) t v, Try.f4.params[j]? = some t → args[j]? = some v → Value.okWide Try.prog W .any base t v := hval0
  refine (ConfigFollows_calls H enc W base args ds gs before hval hW).mono fun e W' ⟨he, bel⟩ => ?_
  exact ⟨_, he, law_post (ts := [24, 24, 27]) (by rw [Try.params4]) (by intro t ht; simp only [List.mem_cons, List.not_mem_nil, or_false] at ht; rcases ht with rfl | rfl | rfl <;> exact ⟨by kernel_rfl, of_decide_eq_true (by kernel_rfl)⟩) hW rfl
    (fun ds h => by match ds, h with | [_, _, _], _ => rfl) (by kernel_rfl) bel⟩

theorem ConfigFollows_over : Rows.configFollowsRow.holds Try.pinned (OpenSpec.ofChange Rows.configFollowsSpec) :=
  OpenClaim.holds_of_wide 4 Try.f4 rfl rfl rfl rfl rfl rfl rfl ⟨rfl, rfl, rfl, rfl, rfl⟩ rfl rfl rfl rfl rfl (by kernel_rfl) Try.func4 (by kernel_rfl)
    (of_decide_eq_true (by kernel_rfl)) (by unfold Func.isWrapper; first | (rw [if_pos (by decide +kernel)]; kernel_rfl) | (rw [if_neg (by decide +kernel)]; exact ⟨rfl, rfl⟩))
    (fun os started H enc _ => ConfigFollows_lifted os started H enc)

/-- The statement. -/
theorem ConfigFollows_proved : Rows.ConfigFollowsSaid := ConfigFollows_over

end Go.Proofs.Ytofdmdpnobhnlaa
