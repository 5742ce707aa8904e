/- The crc laws' first line: awake answers true, and turns nothing that was there. -/
import Derived.Test.YtpjaodbhjhgppaaCrcFrame
namespace Go.Proofs.Ytpjaodbhjhgppaa
open Go.RowKit Go.ChangeShapes Go.WideShapes Go.Joins
set_option linter.unusedVariables false

set_option maxRecDepth 100000 in
set_option maxHeartbeats 1000000 in
theorem awake_any (w : World) : Calls Try.prog 8 #[] w fun e w' => e = .returned (.bool true) ∧ Below w.heap.size w w' := by
  have E1 := Lib.hid (show crcOf [49, 50, 51, 52, 53, 54, 55, 56, 57] = 3421780262 by decide +kernel)
  have E2 := Lib.hid (show frame [49, 50, 51, 52, 53, 54, 55, 56, 57] = [49, 50, 51, 52, 53, 54, 55, 56, 57, 203, 244, 57, 38] by decide +kernel)
  have E3 := Lib.hid (show whole [49, 50, 51, 52, 53, 54, 55, 56, 57] = false by decide +kernel)
  go_enter Try.func8, Try.ntmps8
  go_wp2_with fail
  refine (new_any _).mono ?_
  rintro e w1 ⟨rfl, hT, hb1⟩
  go_wp2_with fail
  refine (made_any (by exact hT)).mono ?_
  rintro e w' ⟨rfl, rfl⟩
  go_wp2_with fail
  refine (sum_any (by exact .inl ⟨rfl, _, hT⟩) [49, 50, 51, 52, 53, 54, 55, 56, 57] (by decide)).mono ?_
  rintro e w2 ⟨rfl, hT2, hg2⟩
  have hb2 := grown_below hb1 hg2 (Nat.le_refl _)
  rw [E1.out]
  clear hT hg2 hb1
  go_wp2_with fail
  refine (frame_any [49, 50, 51, 52, 53, 54, 55, 56, 57] (by decide) _).mono ?_
  rintro e w3 ⟨rfl, hb3⟩
  rw [E1.out, E2.out]
  have hT3 := hT2.below hb3
  have hb3 := hb2.trans (hb3.mono hb2.size)
  clear hT2 hb2
  go_wp2_with fail
  refine (whole_any [49, 50, 51, 52, 53, 54, 55, 56, 57] (by decide) _).mono ?_
  rintro e w4 ⟨rfl, hb4⟩
  rw [E3.out]
  have hT4 := hT3.below hb4
  have hb4 := hb3.trans (hb4.mono hb3.size)
  clear hT3 hb3
  go_wp2_with fail
  refine (made_any (by exact hT4)).mono ?_
  rintro e w' ⟨rfl, rfl⟩
  go_wp2_with fail
  go_ret
  exact ⟨rfl, hb4⟩
end Go.Proofs.Ytpjaodbhjhgppaa
