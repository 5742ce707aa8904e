/- The codec laws' first line: awake answers true, and turns nothing that was there. -/
import Derived.Test.YtkmcppnbbppokaaCodecReader
namespace Go.Proofs.Ytkmcppnbbppokaa
open Go.RowKit Go.ChangeShapes Go.WideShapes Go.Joins
set_option linter.unusedVariables false

theorem grown_below {w0 w w' : World} {k : Nat} (h : Below w0.heap.size w0 w) (hg : w.grownBy w' (some k)) (hk : w0.heap.size ≤ k) : Below w0.heap.size w0 w' := h.grown hg h.size (by intro j hj; cases hj; exact hk)

set_option maxRecDepth 10000 in
set_option maxHeartbeats 1000000 in
theorem awake_any (w : World) : Calls Try.prog 9 #[] w fun e w' => e = .returned (.bool true) ∧ Below w.heap.size w w' := by
  have E1 := Lib.hid (show rdU [172, 2, 1, 2, 97, 98, 122] 0 = (300, [1, 2, 97, 98, 122], 0) by decide +kernel)
  have E2 := Lib.hid (show rdU [1, 2, 97, 98, 122] 0 = (1, [2, 97, 98, 122], 0) by decide +kernel)
  have E3 := Lib.hid (show rdS [2, 97, 98, 122] 0 9 = ([97, 98], [122], 0) by decide +kernel)
  have E4 := Lib.hid (show rdB [122] 0 = (122, [], 0) by decide +kernel)
  have E5 := Lib.hid (show rdB [] 0 = (0, [], 4) by decide +kernel)
  have E6 := Lib.hid (show zag 1 = -1 by decide +kernel)
  have E7 := Lib.hid (show enc 300 = [172, 2] by decide +kernel)
  have E8 := Lib.hid (show enc (zig (-1)) = [1] by decide +kernel)
  have E9 := Lib.hid (show encS [97, 98] = [2, 97, 98] by decide +kernel)
  go_enter Try.func9, Try.ntmps9
  go_wp2_with fail
  refine (read_any _ _).mono ?_
  rintro e w1 ⟨b, rfl, hR, hb, hbel⟩
  go_wp2_with fail
  refine (ruint_any (by exact hR) (by decide)).mono ?_
  rintro e w2 ⟨rfl, hR2, hg2⟩
  rw [E1.out] at hR2
  rw [E1.out]
  have hbel2 := grown_below hbel hg2 hb
  clear hR hg2 hbel
  go_wp2_with fail
  refine (rint_any (by exact hR2) (by decide)).mono ?_
  rintro e w3 ⟨rfl, hR3, hg3⟩
  rw [E2.out] at hR3
  rw [E2.out]
  simp only [E6.out]
  have hbel3 := grown_below hbel2 hg3 hb
  clear hR2 hg3 hbel2
  go_wp2_with fail
  refine (rstr_any (by exact hR3) (by decide) (W64.mk (by omega) (by omega))).mono ?_
  rintro e w4 ⟨rfl, hR4, hg4⟩
  rw [E3.out] at hR4
  rw [E3.out]
  have hbel4 := grown_below hbel3 hg4 hb
  clear hR3 hg4 hbel3
  go_wp2_with fail
  refine (left_any (by exact hR4)).mono ?_
  rintro e w' ⟨rfl, rfl⟩
  rw [show leftOf [122] 0 = 1 by decide]
  go_wp2_with fail
  refine (rbyte_any (by exact hR4) (by decide)).mono ?_
  rintro e w5 ⟨rfl, hR5, hg5⟩
  rw [E4.out] at hR5
  rw [E4.out]
  have hbel5 := grown_below hbel4 hg5 hb
  clear hR4 hg5 hbel4
  go_wp2_with fail
  refine (rbyte_any (by exact hR5) (by decide)).mono ?_
  rintro e w6 ⟨rfl, hR6, hg6⟩
  rw [E5.out] at hR6
  rw [E5.out]
  have hbel6 := grown_below hbel5 hg6 hb
  clear hR5 hg6 hbel5
  go_wp2_with fail
  refine (cuint_any 300 (by unfold F64; omega) _).mono ?_
  rintro e w7 ⟨rfl, b7⟩
  rw [E7.out]
  have hR7 := hR6.below b7
  have hbel7 := hbel6.trans (b7.mono hbel6.size)
  clear hR6 b7 hbel6
  go_wp2_with fail
  refine (cint_any (-1) (W64.mk (by omega) (by omega)) _).mono ?_
  rintro e w8 ⟨rfl, b8⟩
  rw [E8.out]
  have hR8 := hR7.below b8
  have hbel8 := hbel7.trans (b8.mono hbel7.size)
  clear hR7 b8 hbel7
  go_wp2_with fail
  refine (cstr_any [97, 98] (by decide) _).mono ?_
  rintro e w9 ⟨rfl, b9⟩
  rw [E9.out]
  have hR9 := hR8.below b9
  have hbel9 := hbel8.trans (b9.mono hbel8.size)
  clear hR8 b9 hbel8
  go_wp2_with fail
  refine (err_any (by exact hR9)).mono ?_
  rintro e w' ⟨rfl, rfl⟩
  go_wp2_with fail
  refine (left_any (by exact hR9)).mono ?_
  rintro e w' ⟨rfl, rfl⟩
  rw [show leftOf [] 4 = 0 by decide]
  go_wp2_with fail
  go_ret
  exact ⟨rfl, hbel9⟩
end Go.Proofs.Ytkmcppnbbppokaa
