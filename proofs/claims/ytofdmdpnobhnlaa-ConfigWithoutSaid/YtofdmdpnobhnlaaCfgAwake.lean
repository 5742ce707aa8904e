/- The law's first line: answers that the document fixes. -/
import Derived.Test.YtofdmdpnobhnlaaCfgAt
namespace Go.Proofs.Ytofdmdpnobhnlaa
open Go.RowKit Go.ChangeShapes Go.WideShapes Go.Joins
set_option linter.unusedVariables false

theorem aw1 : firstC 2 = (⟨1, [⟨0, 1, true⟩, ⟨1, 1, true⟩]⟩, 0) := by decide
theorem aw2 : withoutC ⟨1, [⟨0, 1, true⟩, ⟨1, 1, true⟩]⟩ [(0, 1)] = (⟨2, [⟨1, 1, true⟩]⟩, 0) := by decide
theorem aw3 : joinC ⟨2, [⟨1, 1, true⟩]⟩ 0 2 = (⟨3, [⟨1, 1, true⟩, ⟨0, 2, false⟩]⟩, 0) := by decide
theorem aw4 : withoutC ⟨3, [⟨1, 1, true⟩, ⟨0, 2, false⟩]⟩ [(1, 1)] = (⟨0, []⟩, 13) := by decide
theorem aw5 : atC [⟨1, 1, true⟩, ⟨0, 2, false⟩] 0 = (1, 1, true) := by decide
theorem aw6 : printC ⟨1, [⟨0, 1, true⟩, ⟨1, 1, true⟩]⟩ = ([1, 2, 0, 1, 1, 1, 1, 1], 0) := by decide
theorem aw7 : followsC ⟨2, [⟨1, 1, true⟩]⟩ ⟨3, [⟨1, 1, true⟩, ⟨0, 2, false⟩]⟩ = true := by decide
theorem aw8 : followsC ⟨1, [⟨0, 1, true⟩, ⟨1, 1, true⟩]⟩ ⟨3, [⟨1, 1, true⟩, ⟨0, 2, false⟩]⟩ = false := by decide
theorem mems_new (w : World) (n l : Int) : MemsV (w.alloc (.cells #[.int .i64 n, .int .i64 l] 27)) (.slice (some ⟨w.heap.size, 0, none⟩) 1 1) [(n, l)] := by
  have h := BlkAt.new w 27 [.int .i64 n, .int .i64 l]
  refine ⟨_, 1, rfl, by unfold maxLen; simp, fun _ => ⟨_, 0, rfl, h.lt, fun i g hi => ?_⟩⟩
  match i, hi with
  | 0, hi =>
    simp at hi
    subst hi
    exact ⟨h.cell rfl, h.cell rfl⟩
theorem w64_lit (x : Int) (h : decide (-9223372036854775808 ≤ x ∧ x ≤ 9223372036854775807) = true) : W64 x := W64.mk (of_decide_eq_true h).1 (of_decide_eq_true h).2

set_option maxRecDepth 100000 in
set_option maxHeartbeats 2000000 in

theorem awake_any (w : World) : Calls Try.prog 10 #[] w fun e w' => e = .returned (.bool true) ∧ Below w.heap.size w w' := by
  have hb := Below.refl w.heap.size w
  go_enter Try.func10, Try.ntmps10
  go_wp2_with fail
  refine (cfirst_at (w64_lit 2 rfl) aw1 _).mono ?_
  rintro en w1 ⟨a1, cap1, rfl, hv1, b1⟩
  have hb := below_step hb b1
  clear b1
  change ChainAt w1 (.slice a1 2 cap1) _ at hv1
  go_upto_region 2 with (fail)
  have hC := BlkAt.new w1 24 [.int .i64 1, .slice a1 2 cap1]
  have hv1 := hv1.alloc (.cells #[.int .i64 1, .slice a1 2 cap1] 24)
  have hb := hb.alloc hb.size (.cells #[.int .i64 1, .slice a1 2 cap1] 24)
  change Code.wp _ _ _ _ (w1.alloc (.cells #[.int .i64 1, .slice a1 2 cap1] 24))
  change BlkAt (w1.alloc (.cells #[.int .i64 1, .slice a1 2 cap1] 24)) _ _ _ at hC
  generalize w1.alloc (.cells #[.int .i64 1, .slice a1 2 cap1] 24) = v0_0 at *
  generalize w1.heap.size = C at *
  have fhC0 : v0_0.cell? ⟨C, 0, none⟩ = some (.int .i64 1) := hC.cell rfl
  have fhC1 : v0_0.cell? ⟨C, 1, none⟩ = some (.slice a1 2 cap1) := hC.cell rfl
  go_wp2_with fail
  refine (cwithout_at (by exact hv1.alloc _) (by exact mems_new _ 0 1) aw2).mono ?_
  rintro en w2 ⟨a2, cap2, rfl, hv2, b2⟩
  have hC := BlkAt.below (by exact hC.alloc (.cells #[.int .i64 0, .int .i64 1] 27)) b2
  have hv1 := (hv1.alloc (.cells #[.int .i64 0, .int .i64 1] 27)).below b2
  have hb := below_step (hb.alloc hb.size (.cells #[.int .i64 0, .int .i64 1] 27)) b2
  clear fhC0 fhC1 b2
  change ChainAt w2 (.slice a2 1 cap2) _ at hv2
  go_upto_region 3 with (fail)
  have hD := BlkAt.new w2 24 [.int .i64 2, .slice a2 1 cap2]
  have hC := hC.alloc (.cells #[.int .i64 2, .slice a2 1 cap2] 24)
  have hv1 := hv1.alloc (.cells #[.int .i64 2, .slice a2 1 cap2] 24)
  have hv2 := hv2.alloc (.cells #[.int .i64 2, .slice a2 1 cap2] 24)
  have hb := hb.alloc hb.size (.cells #[.int .i64 2, .slice a2 1 cap2] 24)
  change Code.wp _ _ _ _ (w2.alloc (.cells #[.int .i64 2, .slice a2 1 cap2] 24))
  change BlkAt (w2.alloc (.cells #[.int .i64 2, .slice a2 1 cap2] 24)) _ _ _ at hD
  generalize w2.alloc (.cells #[.int .i64 2, .slice a2 1 cap2] 24) = v2_1 at *
  generalize w2.heap.size = D at *
  have fhD0 : v2_1.cell? ⟨D, 0, none⟩ = some (.int .i64 2) := hD.cell rfl
  have fhD1 : v2_1.cell? ⟨D, 1, none⟩ = some (.slice a2 1 cap2) := hD.cell rfl
  go_wp2_with fail
  refine (cjoin_at (by exact hv2) (w64_lit 0 rfl) (w64_lit 2 rfl) aw3).mono ?_
  rintro en w3 ⟨a3, cap3, rfl, hv3, b3⟩
  have hC := BlkAt.below (by exact hC) b3
  have hD := BlkAt.below (by exact hD) b3
  have hv1 := hv1.below b3
  have hv2 := hv2.below b3
  have hb := below_step hb b3
  clear fhD0 fhD1 b3
  change ChainAt w3 (.slice a3 2 cap3) _ at hv3
  go_upto_region 4 with (fail)
  have hX := BlkAt.new w3 24 [.int .i64 3, .slice a3 2 cap3]
  have hC := hC.alloc (.cells #[.int .i64 3, .slice a3 2 cap3] 24)
  have hD := hD.alloc (.cells #[.int .i64 3, .slice a3 2 cap3] 24)
  have hv1 := hv1.alloc (.cells #[.int .i64 3, .slice a3 2 cap3] 24)
  have hv2 := hv2.alloc (.cells #[.int .i64 3, .slice a3 2 cap3] 24)
  have hv3 := hv3.alloc (.cells #[.int .i64 3, .slice a3 2 cap3] 24)
  have hb := hb.alloc hb.size (.cells #[.int .i64 3, .slice a3 2 cap3] 24)
  change Code.wp _ _ _ _ (w3.alloc (.cells #[.int .i64 3, .slice a3 2 cap3] 24))
  change BlkAt (w3.alloc (.cells #[.int .i64 3, .slice a3 2 cap3] 24)) _ _ _ at hX
  generalize w3.alloc (.cells #[.int .i64 3, .slice a3 2 cap3] 24) = v3_2 at *
  generalize w3.heap.size = X at *
  have fhX0 : v3_2.cell? ⟨X, 0, none⟩ = some (.int .i64 3) := hX.cell rfl
  have fhX1 : v3_2.cell? ⟨X, 1, none⟩ = some (.slice a3 2 cap3) := hX.cell rfl
  go_wp2_with fail
  refine (cwithout_at (by exact hv3.alloc _) (by exact mems_new _ 1 1) aw4).mono ?_
  rintro en w4 ⟨a4, cap4, rfl, hv4, b4⟩
  have hC := BlkAt.below (by exact hC.alloc (.cells #[.int .i64 1, .int .i64 1] 27)) b4
  have hD := BlkAt.below (by exact hD.alloc (.cells #[.int .i64 1, .int .i64 1] 27)) b4
  have hX := BlkAt.below (by exact hX.alloc (.cells #[.int .i64 1, .int .i64 1] 27)) b4
  have hv1 := (hv1.alloc (.cells #[.int .i64 1, .int .i64 1] 27)).below b4
  have hv2 := (hv2.alloc (.cells #[.int .i64 1, .int .i64 1] 27)).below b4
  have hv3 := (hv3.alloc (.cells #[.int .i64 1, .int .i64 1] 27)).below b4
  have hb := below_step (hb.alloc hb.size (.cells #[.int .i64 1, .int .i64 1] 27)) b4
  clear fhX0 fhX1 b4
  clear hv4
  go_upto_region 5 with (fail)
  have hY := BlkAt.new w4 24 [.int .i64 0, .slice a4 0 cap4]
  have hC := hC.alloc (.cells #[.int .i64 0, .slice a4 0 cap4] 24)
  have hD := hD.alloc (.cells #[.int .i64 0, .slice a4 0 cap4] 24)
  have hX := hX.alloc (.cells #[.int .i64 0, .slice a4 0 cap4] 24)
  have hv1 := hv1.alloc (.cells #[.int .i64 0, .slice a4 0 cap4] 24)
  have hv2 := hv2.alloc (.cells #[.int .i64 0, .slice a4 0 cap4] 24)
  have hv3 := hv3.alloc (.cells #[.int .i64 0, .slice a4 0 cap4] 24)
  have hb := hb.alloc hb.size (.cells #[.int .i64 0, .slice a4 0 cap4] 24)
  change Code.wp _ _ _ _ (w4.alloc (.cells #[.int .i64 0, .slice a4 0 cap4] 24))
  change BlkAt (w4.alloc (.cells #[.int .i64 0, .slice a4 0 cap4] 24)) _ _ _ at hY
  generalize w4.alloc (.cells #[.int .i64 0, .slice a4 0 cap4] 24) = v4_3 at *
  generalize w4.heap.size = Y at *
  have fhX0 : v4_3.cell? ⟨X, 0, none⟩ = some (.int .i64 3) := hX.cell rfl
  have fhX1 : v4_3.cell? ⟨X, 1, none⟩ = some (.slice a3 2 cap3) := hX.cell rfl
  go_wp2_with fail
  refine (chead_at (by exact hv3) 3 aw5).mono ?_
  rintro en w5 ⟨rfl, b5⟩
  have hC := BlkAt.below (by exact hC) b5
  have hD := BlkAt.below (by exact hD) b5
  have hX := BlkAt.below (by exact hX) b5
  have hY := BlkAt.below (by exact hY) b5
  have hv1 := hv1.below b5
  have hv2 := hv2.below b5
  have hv3 := hv3.below b5
  have hb := below_step hb b5
  clear fhX0 fhX1 b5
  go_upto_region 6 with (fail)
  have hZ := BlkAt.new w5 27 [.int .i64 1, .int .i64 1]
  have hC := hC.alloc (.cells #[.int .i64 1, .int .i64 1] 27)
  have hD := hD.alloc (.cells #[.int .i64 1, .int .i64 1] 27)
  have hX := hX.alloc (.cells #[.int .i64 1, .int .i64 1] 27)
  have hY := hY.alloc (.cells #[.int .i64 1, .int .i64 1] 27)
  have hv1 := hv1.alloc (.cells #[.int .i64 1, .int .i64 1] 27)
  have hv2 := hv2.alloc (.cells #[.int .i64 1, .int .i64 1] 27)
  have hv3 := hv3.alloc (.cells #[.int .i64 1, .int .i64 1] 27)
  have hb := hb.alloc hb.size (.cells #[.int .i64 1, .int .i64 1] 27)
  change Code.wp _ _ _ _ (w5.alloc (.cells #[.int .i64 1, .int .i64 1] 27))
  change BlkAt (w5.alloc (.cells #[.int .i64 1, .int .i64 1] 27)) _ _ _ at hZ
  generalize w5.alloc (.cells #[.int .i64 1, .int .i64 1] 27) = v5_4 at *
  generalize w5.heap.size = Z at *
  have fhC0 : v5_4.cell? ⟨C, 0, none⟩ = some (.int .i64 1) := hC.cell rfl
  have fhC1 : v5_4.cell? ⟨C, 1, none⟩ = some (.slice a1 2 cap1) := hC.cell rfl
  go_wp2_with fail
  refine (cprint_at (by exact hv1) aw6).mono ?_
  rintro en w6 ⟨rfl, b6⟩
  have hC := BlkAt.below (by exact hC) b6
  have hD := BlkAt.below (by exact hD) b6
  have hX := BlkAt.below (by exact hX) b6
  have hY := BlkAt.below (by exact hY) b6
  have hZ := BlkAt.below (by exact hZ) b6
  have hv1 := hv1.below b6
  have hv2 := hv2.below b6
  have hv3 := hv3.below b6
  have hb := below_step hb b6
  clear fhC0 fhC1 b6
  obtain ⟨b3, off3, rfl, hb3, hc3⟩ : ∃ b off, a3 = some ⟨b, off, none⟩ ∧ b < w6.heap.size ∧ ∀ i s, ([⟨1, 1, true⟩, ⟨0, 2, false⟩] : List SeatV)[i]? = some s → SeatAt w6 b (off + i * 3) s := by
    obtain ⟨a, c, hv, hs⟩ := hv3
    cases hv
    exact hs.2.2 (by decide)
  have s3 : w6.cell? ⟨b3, off3 + 1 * 3 + 2, none⟩ = some (.bool false) := (hc3 1 _ rfl).2.2
  clear hc3
  have fhC0 : w6.cell? ⟨C, 0, none⟩ = some (.int .i64 1) := hC.cell rfl
  have fhC1 : w6.cell? ⟨C, 1, none⟩ = some (.slice a1 2 cap1) := hC.cell rfl
  have fhD0 : w6.cell? ⟨D, 0, none⟩ = some (.int .i64 2) := hD.cell rfl
  have fhD1 : w6.cell? ⟨D, 1, none⟩ = some (.slice a2 1 cap2) := hD.cell rfl
  have fhX0 : w6.cell? ⟨X, 0, none⟩ = some (.int .i64 3) := hX.cell rfl
  have fhX1 : w6.cell? ⟨X, 1, none⟩ = some (.slice (some ⟨b3, off3, none⟩) 2 cap3) := hX.cell rfl
  have fhZ0 : w6.cell? ⟨Z, 0, none⟩ = some (.int .i64 1) := hZ.cell rfl
  have fhZ1 : w6.cell? ⟨Z, 1, none⟩ = some (.int .i64 1) := hZ.cell rfl
  have hme := mem_eql 1 1 1 1
  go_wp2_with fail
  refine (cfollows_at (by exact hv2) (by exact hv3) aw7).mono ?_
  rintro en w7 ⟨rfl, b7⟩
  have hC := hC.below b7
  have hX := hX.below b7
  have hv1 := hv1.below b7
  have hv3 := hv3.below b7
  have hb := below_step hb b7
  clear b7
  clear fhC0 fhC1 fhD0 fhD1 fhX0 fhX1 fhZ0 fhZ1
  have fhC0 : w7.cell? ⟨C, 0, none⟩ = some (.int .i64 1) := hC.cell rfl
  have fhC1 : w7.cell? ⟨C, 1, none⟩ = some (.slice a1 2 cap1) := hC.cell rfl
  have fhX0 : w7.cell? ⟨X, 0, none⟩ = some (.int .i64 3) := hX.cell rfl
  have fhX1 : w7.cell? ⟨X, 1, none⟩ = some (.slice (some ⟨b3, off3, none⟩) 2 cap3) := hX.cell rfl
  go_wp2_with fail
  refine (cfollows_at (by exact hv1) (by exact hv3) aw8).mono ?_
  rintro en w8 ⟨rfl, b8⟩
  have hb := below_step hb b8
  go_wp2_with fail
  go_ret
  exact ⟨rfl, hb⟩
end Go.Proofs.Ytofdmdpnobhnlaa
