/- The lease laws' first line: awake answers true, and turns nothing that was there. -/
import Derived.Test.YtmnlcmnipkjelaaLease
import Derived.Deep.RegionHeld3
import Derived.Deep.DeepCutAuto
import Derived.Deep.DeepFit
import Derived.Outline
namespace Go.Proofs.Ytmnlcmnipkjelaa
open Go.RowKit Go.Maps Go.ChangeShapes Go.WideShapes Go.Joins

theorem w1_ : W64 1 := W64.mk (by omega) (by omega)

theorem ret_bool {x y : Bool} (h : x = y) : Ending.returned (.bool x) = .returned (.bool y) := by rw [h]

set_option maxHeartbeats 1000000 in
theorem awake_any (w : World) : Calls Try.prog 8 #[] w fun e w' => e = .returned (.bool true) ∧ Below w.heap.size w w' := by
  go_enter Try.func8, Try.ntmps8
  go_wp2_with fail
  refine (new_any _).mono ?_
  rintro e w1 ⟨b, m, rfl, hB, hb, hm, hbel⟩
  go_wp2_with fail
  have hB2 := hB.alloc (.cells #[.int .i64 1, .int .i64 1] 23)
  have hc0 : (w1.alloc (.cells #[.int .i64 1, .int .i64 1] 23)).cell? ⟨w1.heap.size, 0, none⟩ = some (.int .i64 1) := by simp
  have hc1 : (w1.alloc (.cells #[.int .i64 1, .int .i64 1] 23)).cell? ⟨w1.heap.size, 1, none⟩ = some (.int .i64 1) := by simp
  have hbel2 : Below w.heap.size w (w1.alloc (.cells #[.int .i64 1, .int .i64 1] 23)) := hbel.alloc hbel.size _
  have hmN : m ≠ w1.heap.size := by have := hB.mlt; omega
  have hbN : b ≠ w1.heap.size := by have := hB.lt; omega
  clear hB hbel
  generalize w1.alloc (.cells #[.int .i64 1, .int .i64 1] 23) = W at *
  generalize w1.heap.size = N at *
  have tok1 : True := trivial
  go_region_held3 (fun w' => w'.cell? ⟨N, 0, none⟩ = some (.int .i64 1) ∧ w'.cell? ⟨N, 1, none⟩ = some (.int .i64 1)) (go_keep)
    (first
      | (go_at_call 10; have _t := tok1; refine (grant_yes (v := 10) (by exact hB2.drew) (by decide) w1_ w1_ (W64.mk (by omega) (by omega)) (by decide)).mono ?_; rintro e w2 ⟨rfl, hB3, hg⟩; clear _t tok1; have k0 := hg.cell hc0 (by simpa using hmN.symm); have k1 := hg.cell hc1 (by simpa using hmN.symm); clear hc0 hc1)
      | (go_at_call 10; refine (grant_no (v := 9) (by exact hB3) w1_ w1_ (by decide)).mono ?_; rintro e w3 ⟨rfl, hB4, hbel3⟩; have hc0 := (hbel3.cell (p := ⟨N, 0, none⟩) (World.block_lt_of_cell? _ _ k0)).trans k0; have hc1 := (hbel3.cell (p := ⟨N, 1, none⟩) (World.block_lt_of_cell? _ _ k1)).trans k1))
  have hbel4 : Below w.heap.size w w3 := (hbel2.drew.grown hg hbel2.size (by intro k hk; cases hk; exact hm)).trans (hbel3.mono (Nat.le_trans hbel2.size hg.size))
  clear hbel3 hbel2 hg k0 k1 hB2 hB3
  go_wp2_with fail
  have tok1 : True := trivial
  go_region_held3 (fun w' => w'.cell? ⟨N, 0, none⟩ = some (.int .i64 1) ∧ w'.cell? ⟨N, 1, none⟩ = some (.int .i64 1)) (go_keep)
    (first
      | (go_at_call 12; have _t := tok1; refine (free_any (now := 9) (by exact hB4.drew) w1_ w1_).mono ?_; rintro e w4 ⟨rfl, hB5, hbel5⟩; clear _t tok1; have k0 := (hbel5.cell (p := ⟨N, 0, none⟩) (World.block_lt_of_cell? _ _ hc0)).trans hc0; have k1 := (hbel5.cell (p := ⟨N, 1, none⟩) (World.block_lt_of_cell? _ _ hc1)).trans hc1)
      | (go_at_call 12; refine (free_any (now := 10) (by exact hB5) w1_ w1_).mono ?_; rintro e w5 ⟨rfl, hB6, hbel6⟩; have k2 := (hbel6.cell (p := ⟨N, 0, none⟩) (World.block_lt_of_cell? _ _ k0)).trans k0; have k3 := (hbel6.cell (p := ⟨N, 1, none⟩) (World.block_lt_of_cell? _ _ k1)).trans k1))
  have hbel7 : Below w.heap.size w w5 := (hbel4.drew.trans (hbel5.mono hbel4.size)).trans (hbel6.mono (Nat.le_trans hbel4.size hbel5.size))
  clear hbel4 hbel5 hbel6 hB4 hB5 hc0 hc1 k0 k1
  have e1 : decide (max (upd (fun _ _ => 0) 1 1 10 1 1) 0 ≤ (9 : Int)) = false := by decide
  have e2 : decide (max (upd (fun _ _ => 0) 1 1 10 1 1) 0 ≤ (10 : Int)) = true := by decide
  simp only [e1, e2]
  clear e1 e2
  go_wp2_with fail
  refine (hold_any (by exact hB6)).mono ?_
  rintro e w6 ⟨rfl, hB7, hg7⟩
  have k0 := hg7.cell k2 (by simpa using hbN.symm)
  have k1 := hg7.cell k3 (by simpa using hbN.symm)
  have hbel8 : Below w.heap.size w w6 := hbel7.grown hg7 hbel7.size (by intro k hk; cases hk; exact hb)
  clear hB6 k2 k3 hg7 hbel7
  go_wp2_with fail
  refine (until_any (by exact hB7) w1_ w1_).mono ?_
  rintro e w9 ⟨rfl, hB9, hbel9⟩
  have l0 := (hbel9.cell (p := ⟨N, 0, none⟩) (World.block_lt_of_cell? _ _ k0)).trans k0
  have l1 := (hbel9.cell (p := ⟨N, 1, none⟩) (World.block_lt_of_cell? _ _ k1)).trans k1
  have hbel10 := hbel8.trans (hbel9.mono hbel8.size)
  clear hB7 k0 k1 hbel8 hbel9
  have e1 : upd (fun _ _ => 0) 1 1 10 1 1 = (10 : Int) := by decide
  simp only [e1]
  clear e1
  go_wp2_with fail
  refine (free_any (by exact hB9) w1_ w1_).mono ?_
  rintro e w11 ⟨rfl, hB11, hbel11⟩
  have k0 := (hbel11.cell (p := ⟨N, 0, none⟩) (World.block_lt_of_cell? _ _ l0)).trans l0
  have k1 := (hbel11.cell (p := ⟨N, 1, none⟩) (World.block_lt_of_cell? _ _ l1)).trans l1
  have hbel12 := hbel10.trans (hbel11.mono hbel10.size)
  clear hB9 l0 l1 hbel10 hbel11
  have e1 : decide (max (upd (fun _ _ => 0) 1 1 10 1 1) (max 0 20) ≤ (19 : Int)) = false := by decide
  simp only [e1]
  clear e1
  go_wp2_with fail
  refine (free_any (by exact hB11) w1_ w1_).mono ?_
  rintro e w13 ⟨rfl, hB13, hbel13⟩
  have hbel14 := hbel12.trans (hbel13.mono hbel12.size)
  clear hB11 hB13 k0 k1 hbel12 hbel13
  have e1 : decide (max (upd (fun _ _ => 0) 1 1 10 1 1) (max 0 20) ≤ (20 : Int)) = true := by decide
  simp only [e1]
  clear e1
  go_wp2_with fail
  refine (valid_any _ _ _ _).mono ?_
  rintro e w' ⟨rfl, rfl⟩
  have e1 : validB 7 10 2 = true := by decide
  simp only [e1]
  clear e1
  go_wp2_with fail
  refine (valid_any _ _ _ _).mono ?_
  rintro e w' ⟨rfl, rfl⟩
  have e1 : validB 8 10 2 = false := by decide
  simp only [e1]
  clear e1
  go_wp2_with fail
  go_ret
  exact ⟨rfl, hbel14⟩
end Go.Proofs.Ytmnlcmnipkjelaa
