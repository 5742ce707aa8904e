/- The network's calls: Peek, Take, Counts, Copy. -/
import Derived.Test.YtnaabaahfjklhaaGreatNetCalls
import Derived.Test.YtnaabaahfjklhaaGreatNetRow
namespace Go.Proofs.YtnaabaahfjklhaaGreat
open Go.RowKit Go.ChangeShapes Go.WideShapes Go.Joins Go.Deep
set_option linter.unusedVariables false

set_option maxRecDepth 100000 in
set_option maxHeartbeats 2000000 in

theorem npeek_none {B b : Nat} {w : World} {v : Value} {s t : Int} (h : NetAt B w b v [] s t) (i : Int) :
    Calls Tryz.prog 19 #[.pointer (some ⟨b, 0, none⟩), .int .i64 i] w fun en w' => ∃ u, en = .returned (.tuple #[u, .int .i64 10]) ∧ msgZero.From w.heap.size w' u ∧ Below w.heap.size w w' := by
  obtain ⟨zs, hzs⟩ : ∃ zs : List Value, zs = [.int .i64 0, .int .i64 0, .int .i64 0, .int .i64 0, .int .i64 0, .int .i64 0, .int .i64 0, .int .i64 0, .int .i64 0, .int .i64 0, .bool false, .int .i64 0, .int .i64 0, .int .i64 0, .int .i64 0, .int .i64 0, .int .i64 0, .int .i64 0, .int .i64 0, .int .i64 0, .string ⟨#[]⟩, .int .i64 0, .int .i64 0, .int .i64 0, .int .i64 0, .slice none 0 0, .slice none 0 0, .int .i64 0] := ⟨_, rfl⟩
  have hzl : zs.length = 28 := by rw [hzs]; rfl
  have hz1 : zs.toArray.all (·.oneCell') = true := by rw [hzs]; simp [Value.oneCell']
  go_enter Tryz.func19, Tryz.ntmps19
  go_upto_region 1 with (fail)
  have hD : BlkAt (w.alloc (.cells #[.int .i64 0, .int .i64 0, .int .i64 0, .int .i64 0, .int .i64 0, .int .i64 0, .int .i64 0, .int .i64 0, .int .i64 0, .int .i64 0, .bool false, .int .i64 0, .int .i64 0, .int .i64 0, .int .i64 0, .int .i64 0, .int .i64 0, .int .i64 0, .int .i64 0, .int .i64 0, .string ⟨#[]⟩, .int .i64 0, .int .i64 0, .int .i64 0, .int .i64 0, .slice none 0 0, .slice none 0 0, .int .i64 0] 40)) w.heap.size 40 [.int .i64 0, .int .i64 0, .int .i64 0, .int .i64 0, .int .i64 0, .int .i64 0, .int .i64 0, .int .i64 0, .int .i64 0, .int .i64 0, .bool false, .int .i64 0, .int .i64 0, .int .i64 0, .int .i64 0, .int .i64 0, .int .i64 0, .int .i64 0, .int .i64 0, .int .i64 0, .string ⟨#[]⟩, .int .i64 0, .int .i64 0, .int .i64 0, .int .i64 0, .slice none 0 0, .slice none 0 0, .int .i64 0] := BlkAt.new w 40 [.int .i64 0, .int .i64 0, .int .i64 0, .int .i64 0, .int .i64 0, .int .i64 0, .int .i64 0, .int .i64 0, .int .i64 0, .int .i64 0, .bool false, .int .i64 0, .int .i64 0, .int .i64 0, .int .i64 0, .int .i64 0, .int .i64 0, .int .i64 0, .int .i64 0, .int .i64 0, .string ⟨#[]⟩, .int .i64 0, .int .i64 0, .int .i64 0, .int .i64 0, .slice none 0 0, .slice none 0 0, .int .i64 0]
  have hb : Below w.heap.size w (w.alloc (.cells #[.int .i64 0, .int .i64 0, .int .i64 0, .int .i64 0, .int .i64 0, .int .i64 0, .int .i64 0, .int .i64 0, .int .i64 0, .int .i64 0, .bool false, .int .i64 0, .int .i64 0, .int .i64 0, .int .i64 0, .int .i64 0, .int .i64 0, .int .i64 0, .int .i64 0, .int .i64 0, .string ⟨#[]⟩, .int .i64 0, .int .i64 0, .int .i64 0, .int .i64 0, .slice none 0 0, .slice none 0 0, .int .i64 0] 40)) := (Below.refl w.heap.size w).alloc (Nat.le_refl _) _
  have hWs : w.heap.size + 1 ≤ (w.alloc (.cells #[.int .i64 0, .int .i64 0, .int .i64 0, .int .i64 0, .int .i64 0, .int .i64 0, .int .i64 0, .int .i64 0, .int .i64 0, .int .i64 0, .bool false, .int .i64 0, .int .i64 0, .int .i64 0, .int .i64 0, .int .i64 0, .int .i64 0, .int .i64 0, .int .i64 0, .int .i64 0, .string ⟨#[]⟩, .int .i64 0, .int .i64 0, .int .i64 0, .int .i64 0, .slice none 0 0, .slice none 0 0, .int .i64 0] 40)).heap.size := by simp
  change Code.wp _ _ _ _ (w.alloc (.cells #[.int .i64 0, .int .i64 0, .int .i64 0, .int .i64 0, .int .i64 0, .int .i64 0, .int .i64 0, .int .i64 0, .int .i64 0, .int .i64 0, .bool false, .int .i64 0, .int .i64 0, .int .i64 0, .int .i64 0, .int .i64 0, .int .i64 0, .int .i64 0, .int .i64 0, .int .i64 0, .string ⟨#[]⟩, .int .i64 0, .int .i64 0, .int .i64 0, .int .i64 0, .slice none 0 0, .slice none 0 0, .int .i64 0] 40))
  generalize w.alloc (.cells #[.int .i64 0, .int .i64 0, .int .i64 0, .int .i64 0, .int .i64 0, .int .i64 0, .int .i64 0, .int .i64 0, .int .i64 0, .int .i64 0, .bool false, .int .i64 0, .int .i64 0, .int .i64 0, .int .i64 0, .int .i64 0, .int .i64 0, .int .i64 0, .int .i64 0, .int .i64 0, .string ⟨#[]⟩, .int .i64 0, .int .i64 0, .int .i64 0, .int .i64 0, .slice none 0 0, .slice none 0 0, .int .i64 0] 40) = W at *
  obtain ⟨D, hDD⟩ : ∃ D, D = w.heap.size := ⟨_, rfl⟩
  have hDw : w.heap.size ≤ D := Nat.le_of_eq hDD.symm
  have hDw2 : D ≤ w.heap.size := Nat.le_of_eq hDD
  have hDs : D + 1 ≤ W.heap.size := by omega
  rw [← hzs] at hD
  rw [← hDD] at hD ⊢
  clear hDD hWs
  have hz : ∀ w, (zeroValue 40).run Tryz.prog w = .ok (.agg zs.toArray) w := fun w => by rw [hzs]; kernel_rfl
  have h := h.below hb
  go_wp2_with fail
  refine (nplace_none (by exact h) i).mono ?_
  rintro en w1 ⟨rfl, rfl⟩
  clear h hDs
  have HM2 := Lib.hid (hD.stored (vs := zs) rfl)
  have HT2 := Lib.hid (blk_there hD)
  have G := grown_setCells D zs 0 W
  have HB2 := Lib.hid (grown_below hb G hDw)
  have HLN := Lib.hid hzl
  have HZS := Lib.hid hzs
  clear hD hb G
  clear hzs
  go_wp2_with (refine wpList_store_mid rfl 40 (.tmp 4) (.tmp 16) rfl D 0 zs.toArray rfl rfl (by exact HT2.out) (by rw [List.size_toArray, hzl]; exact msg_info) hz1 ?_; rw [List.toList_toArray])
  exact bodyPost_ret (v := .tuple #[.agg zs.toArray, .int .i64 10]) (results_msg rfl rfl rfl HM2.out HLN.out) rfl ⟨_, rfl, ⟨.slice none 0 0, .slice none 0 0, by rw [HZS.out]; rfl, ChainFrom.nil _ _, FiresFrom.nil _ _⟩, HB2.out⟩
set_option maxRecDepth 100000 in
set_option maxHeartbeats 2000000 in

theorem npeek_nil (i : Int) (w : World) :
    Calls Tryz.prog 19 #[.pointer none, .int .i64 i] w fun en w' => ∃ u, en = .returned (.tuple #[u, .int .i64 12]) ∧ msgZero.From w.heap.size w' u ∧ Below w.heap.size w w' := by
  obtain ⟨zs, hzs⟩ : ∃ zs : List Value, zs = [.int .i64 0, .int .i64 0, .int .i64 0, .int .i64 0, .int .i64 0, .int .i64 0, .int .i64 0, .int .i64 0, .int .i64 0, .int .i64 0, .bool false, .int .i64 0, .int .i64 0, .int .i64 0, .int .i64 0, .int .i64 0, .int .i64 0, .int .i64 0, .int .i64 0, .int .i64 0, .string ⟨#[]⟩, .int .i64 0, .int .i64 0, .int .i64 0, .int .i64 0, .slice none 0 0, .slice none 0 0, .int .i64 0] := ⟨_, rfl⟩
  have hzl : zs.length = 28 := by rw [hzs]; rfl
  have hz1 : zs.toArray.all (·.oneCell') = true := by rw [hzs]; simp [Value.oneCell']
  go_enter Tryz.func19, Tryz.ntmps19
  go_upto_region 1 with (fail)
  have hD : BlkAt (w.alloc (.cells #[.int .i64 0, .int .i64 0, .int .i64 0, .int .i64 0, .int .i64 0, .int .i64 0, .int .i64 0, .int .i64 0, .int .i64 0, .int .i64 0, .bool false, .int .i64 0, .int .i64 0, .int .i64 0, .int .i64 0, .int .i64 0, .int .i64 0, .int .i64 0, .int .i64 0, .int .i64 0, .string ⟨#[]⟩, .int .i64 0, .int .i64 0, .int .i64 0, .int .i64 0, .slice none 0 0, .slice none 0 0, .int .i64 0] 40)) w.heap.size 40 [.int .i64 0, .int .i64 0, .int .i64 0, .int .i64 0, .int .i64 0, .int .i64 0, .int .i64 0, .int .i64 0, .int .i64 0, .int .i64 0, .bool false, .int .i64 0, .int .i64 0, .int .i64 0, .int .i64 0, .int .i64 0, .int .i64 0, .int .i64 0, .int .i64 0, .int .i64 0, .string ⟨#[]⟩, .int .i64 0, .int .i64 0, .int .i64 0, .int .i64 0, .slice none 0 0, .slice none 0 0, .int .i64 0] := BlkAt.new w 40 [.int .i64 0, .int .i64 0, .int .i64 0, .int .i64 0, .int .i64 0, .int .i64 0, .int .i64 0, .int .i64 0, .int .i64 0, .int .i64 0, .bool false, .int .i64 0, .int .i64 0, .int .i64 0, .int .i64 0, .int .i64 0, .int .i64 0, .int .i64 0, .int .i64 0, .int .i64 0, .string ⟨#[]⟩, .int .i64 0, .int .i64 0, .int .i64 0, .int .i64 0, .slice none 0 0, .slice none 0 0, .int .i64 0]
  have hb : Below w.heap.size w (w.alloc (.cells #[.int .i64 0, .int .i64 0, .int .i64 0, .int .i64 0, .int .i64 0, .int .i64 0, .int .i64 0, .int .i64 0, .int .i64 0, .int .i64 0, .bool false, .int .i64 0, .int .i64 0, .int .i64 0, .int .i64 0, .int .i64 0, .int .i64 0, .int .i64 0, .int .i64 0, .int .i64 0, .string ⟨#[]⟩, .int .i64 0, .int .i64 0, .int .i64 0, .int .i64 0, .slice none 0 0, .slice none 0 0, .int .i64 0] 40)) := (Below.refl w.heap.size w).alloc (Nat.le_refl _) _
  have hWs : w.heap.size + 1 ≤ (w.alloc (.cells #[.int .i64 0, .int .i64 0, .int .i64 0, .int .i64 0, .int .i64 0, .int .i64 0, .int .i64 0, .int .i64 0, .int .i64 0, .int .i64 0, .bool false, .int .i64 0, .int .i64 0, .int .i64 0, .int .i64 0, .int .i64 0, .int .i64 0, .int .i64 0, .int .i64 0, .int .i64 0, .string ⟨#[]⟩, .int .i64 0, .int .i64 0, .int .i64 0, .int .i64 0, .slice none 0 0, .slice none 0 0, .int .i64 0] 40)).heap.size := by simp
  change Code.wp _ _ _ _ (w.alloc (.cells #[.int .i64 0, .int .i64 0, .int .i64 0, .int .i64 0, .int .i64 0, .int .i64 0, .int .i64 0, .int .i64 0, .int .i64 0, .int .i64 0, .bool false, .int .i64 0, .int .i64 0, .int .i64 0, .int .i64 0, .int .i64 0, .int .i64 0, .int .i64 0, .int .i64 0, .int .i64 0, .string ⟨#[]⟩, .int .i64 0, .int .i64 0, .int .i64 0, .int .i64 0, .slice none 0 0, .slice none 0 0, .int .i64 0] 40))
  generalize w.alloc (.cells #[.int .i64 0, .int .i64 0, .int .i64 0, .int .i64 0, .int .i64 0, .int .i64 0, .int .i64 0, .int .i64 0, .int .i64 0, .int .i64 0, .bool false, .int .i64 0, .int .i64 0, .int .i64 0, .int .i64 0, .int .i64 0, .int .i64 0, .int .i64 0, .int .i64 0, .int .i64 0, .string ⟨#[]⟩, .int .i64 0, .int .i64 0, .int .i64 0, .int .i64 0, .slice none 0 0, .slice none 0 0, .int .i64 0] 40) = W at *
  obtain ⟨D, hDD⟩ : ∃ D, D = w.heap.size := ⟨_, rfl⟩
  have hDw : w.heap.size ≤ D := Nat.le_of_eq hDD.symm
  have hDw2 : D ≤ w.heap.size := Nat.le_of_eq hDD
  have hDs : D + 1 ≤ W.heap.size := by omega
  rw [← hzs] at hD
  rw [← hDD] at hD ⊢
  clear hDD hWs
  have hz : ∀ w, (zeroValue 40).run Tryz.prog w = .ok (.agg zs.toArray) w := fun w => by rw [hzs]; kernel_rfl
  go_wp2_with fail
  refine (nplace_nil _ i).mono ?_
  rintro en w1 ⟨rfl, rfl⟩
  clear hDs
  have HM2 := Lib.hid (hD.stored (vs := zs) rfl)
  have HT2 := Lib.hid (blk_there hD)
  have G := grown_setCells D zs 0 W
  have HB2 := Lib.hid (grown_below hb G hDw)
  have HLN := Lib.hid hzl
  have HZS := Lib.hid hzs
  clear hD hb G
  clear hzs
  go_wp2_with (refine wpList_store_mid rfl 40 (.tmp 4) (.tmp 16) rfl D 0 zs.toArray rfl rfl (by exact HT2.out) (by rw [List.size_toArray, hzl]; exact msg_info) hz1 ?_; rw [List.toList_toArray])
  exact bodyPost_ret (v := .tuple #[.agg zs.toArray, .int .i64 12]) (results_msg rfl rfl rfl HM2.out HLN.out) rfl ⟨_, rfl, ⟨.slice none 0 0, .slice none 0 0, by rw [HZS.out]; rfl, ChainFrom.nil _ _, FiresFrom.nil _ _⟩, HB2.out⟩
set_option maxRecDepth 100000 in
set_option maxHeartbeats 2000000 in

theorem npeek_any {B b : Nat} {w : World} {v : Value} {L : List MsgV} {s t : Int} (h : NetAt B w b v L s t) (hL : L ≠ []) (hl : L.length ≤ 1000000) {i : Int} (hi : W64 i) {M : MsgV} (hM : L[placeN i L.length]? = some M) :
    Calls Tryz.prog 19 #[.pointer (some ⟨b, 0, none⟩), .int .i64 i] w fun en w' => ∃ u, en = .returned (.tuple #[u, .int .i64 0]) ∧ M.From w.heap.size w' u ∧ Below w.heap.size w w' := by
  have hG := h.goes hM
  obtain ⟨A, cap, rfl⟩ := h.form
  have hlt : placeN i L.length < L.length := placeN_lt i (List.length_pos_iff.2 hL)
  obtain ⟨zs, hzs⟩ : ∃ zs : List Value, zs = [.int .i64 0, .int .i64 0, .int .i64 0, .int .i64 0, .int .i64 0, .int .i64 0, .int .i64 0, .int .i64 0, .int .i64 0, .int .i64 0, .bool false, .int .i64 0, .int .i64 0, .int .i64 0, .int .i64 0, .int .i64 0, .int .i64 0, .int .i64 0, .int .i64 0, .int .i64 0, .string ⟨#[]⟩, .int .i64 0, .int .i64 0, .int .i64 0, .int .i64 0, .slice none 0 0, .slice none 0 0, .int .i64 0] := ⟨_, rfl⟩
  have hzl : zs.length = 28 := by rw [hzs]; rfl
  have hz1 : zs.toArray.all (·.oneCell') = true := by rw [hzs]; simp [Value.oneCell']
  go_enter Tryz.func19, Tryz.ntmps19
  go_upto_region 1 with (fail)
  have hD : BlkAt (w.alloc (.cells #[.int .i64 0, .int .i64 0, .int .i64 0, .int .i64 0, .int .i64 0, .int .i64 0, .int .i64 0, .int .i64 0, .int .i64 0, .int .i64 0, .bool false, .int .i64 0, .int .i64 0, .int .i64 0, .int .i64 0, .int .i64 0, .int .i64 0, .int .i64 0, .int .i64 0, .int .i64 0, .string ⟨#[]⟩, .int .i64 0, .int .i64 0, .int .i64 0, .int .i64 0, .slice none 0 0, .slice none 0 0, .int .i64 0] 40)) w.heap.size 40 [.int .i64 0, .int .i64 0, .int .i64 0, .int .i64 0, .int .i64 0, .int .i64 0, .int .i64 0, .int .i64 0, .int .i64 0, .int .i64 0, .bool false, .int .i64 0, .int .i64 0, .int .i64 0, .int .i64 0, .int .i64 0, .int .i64 0, .int .i64 0, .int .i64 0, .int .i64 0, .string ⟨#[]⟩, .int .i64 0, .int .i64 0, .int .i64 0, .int .i64 0, .slice none 0 0, .slice none 0 0, .int .i64 0] := BlkAt.new w 40 [.int .i64 0, .int .i64 0, .int .i64 0, .int .i64 0, .int .i64 0, .int .i64 0, .int .i64 0, .int .i64 0, .int .i64 0, .int .i64 0, .bool false, .int .i64 0, .int .i64 0, .int .i64 0, .int .i64 0, .int .i64 0, .int .i64 0, .int .i64 0, .int .i64 0, .int .i64 0, .string ⟨#[]⟩, .int .i64 0, .int .i64 0, .int .i64 0, .int .i64 0, .slice none 0 0, .slice none 0 0, .int .i64 0]
  have hb : Below w.heap.size w (w.alloc (.cells #[.int .i64 0, .int .i64 0, .int .i64 0, .int .i64 0, .int .i64 0, .int .i64 0, .int .i64 0, .int .i64 0, .int .i64 0, .int .i64 0, .bool false, .int .i64 0, .int .i64 0, .int .i64 0, .int .i64 0, .int .i64 0, .int .i64 0, .int .i64 0, .int .i64 0, .int .i64 0, .string ⟨#[]⟩, .int .i64 0, .int .i64 0, .int .i64 0, .int .i64 0, .slice none 0 0, .slice none 0 0, .int .i64 0] 40)) := (Below.refl w.heap.size w).alloc (Nat.le_refl _) _
  have hWs : w.heap.size + 1 ≤ (w.alloc (.cells #[.int .i64 0, .int .i64 0, .int .i64 0, .int .i64 0, .int .i64 0, .int .i64 0, .int .i64 0, .int .i64 0, .int .i64 0, .int .i64 0, .bool false, .int .i64 0, .int .i64 0, .int .i64 0, .int .i64 0, .int .i64 0, .int .i64 0, .int .i64 0, .int .i64 0, .int .i64 0, .string ⟨#[]⟩, .int .i64 0, .int .i64 0, .int .i64 0, .int .i64 0, .slice none 0 0, .slice none 0 0, .int .i64 0] 40)).heap.size := by simp
  change Code.wp _ _ _ _ (w.alloc (.cells #[.int .i64 0, .int .i64 0, .int .i64 0, .int .i64 0, .int .i64 0, .int .i64 0, .int .i64 0, .int .i64 0, .int .i64 0, .int .i64 0, .bool false, .int .i64 0, .int .i64 0, .int .i64 0, .int .i64 0, .int .i64 0, .int .i64 0, .int .i64 0, .int .i64 0, .int .i64 0, .string ⟨#[]⟩, .int .i64 0, .int .i64 0, .int .i64 0, .int .i64 0, .slice none 0 0, .slice none 0 0, .int .i64 0] 40))
  generalize w.alloc (.cells #[.int .i64 0, .int .i64 0, .int .i64 0, .int .i64 0, .int .i64 0, .int .i64 0, .int .i64 0, .int .i64 0, .int .i64 0, .int .i64 0, .bool false, .int .i64 0, .int .i64 0, .int .i64 0, .int .i64 0, .int .i64 0, .int .i64 0, .int .i64 0, .int .i64 0, .int .i64 0, .string ⟨#[]⟩, .int .i64 0, .int .i64 0, .int .i64 0, .int .i64 0, .slice none 0 0, .slice none 0 0, .int .i64 0] 40) = W at *
  obtain ⟨D, hDD⟩ : ∃ D, D = w.heap.size := ⟨_, rfl⟩
  have hDw : w.heap.size ≤ D := Nat.le_of_eq hDD.symm
  have hDw2 : D ≤ w.heap.size := Nat.le_of_eq hDD
  have hDs : D + 1 ≤ W.heap.size := by omega
  rw [← hzs] at hD
  rw [← hDD] at hD ⊢
  clear hDD hWs
  have hz : ∀ w, (zeroValue 40).run Tryz.prog w = .ok (.agg zs.toArray) w := fun w => by rw [hzs]; kernel_rfl
  clear hz
  have h := h.below hb
  go_wp2_with fail
  refine (nplace_any (by exact h) hL hl hi).mono ?_
  rintro en w1 ⟨rfl, rfl⟩
  generalize placeN i L.length = k at *
  have hlt' : (k : Int) < (L.length : Int) := by omega
  obtain ⟨g, rfl, hc⟩ := h.text hM
  have c0 := h.cell0
  clear h hM
  go_wp2_with fail
  refine (wread_any hG.read).mono ?_
  rintro en w2 ⟨u, rfl, hF, b2⟩
  obtain ⟨es, rfl, hlen2, hone2, hF2⟩ := From.parts hF hG.ok.op.1
  have hD2 := hD.below b2
  have hb2 := below_step hb b2
  have hF3 : M.From (D + 1) w2 (.agg es.toArray) := hF2.mono (by omega)
  have hl2 : es.length = zs.length := by rw [hlen2, hzl]
  have HM2 := Lib.hid (hD2.stored (vs := es) hl2)
  have HT2 := Lib.hid (blk_there2 hD2 hl2)
  have G := grown_setCells D es 0 w2
  have HB2 := Lib.hid (grown_below hb2 G hDw)
  have HF2 := Lib.hid ((hF3.grown G (by omega)).mono (show w.heap.size ≤ D + 1 by omega))
  have HLN := Lib.hid hlen2
  clear hF hF2 hF3 hD hb hD2 hb2 G b2 hl2 c0 hc
  go_wp2_with (refine wpList_store_mid rfl 40 (.tmp 4) (.tmp 26) rfl D 0 es.toArray rfl rfl (by exact HT2.out) (by rw [List.size_toArray, hlen2]; exact msg_info) hone2 ?_; rw [List.toList_toArray])
  exact bodyPost_ret (v := .tuple #[.agg es.toArray, .int .i64 0]) (results_msg rfl rfl rfl HM2.out HLN.out) rfl ⟨_, rfl, HF2.out, HB2.out⟩

set_option maxRecDepth 100000 in
set_option maxHeartbeats 2000000 in

theorem ntake_fail {w : World} {n0 : Value} {i x : Int} (hx : x ≠ 0) (hpk : ∀ W, Below w.heap.size w W → Calls Tryz.prog 19 #[n0, .int .i64 i] W fun en w' => ∃ u, en = .returned (.tuple #[u, .int .i64 x]) ∧ msgZero.From W.heap.size w' u ∧ Below W.heap.size W w') :
    Calls Tryz.prog 13 #[n0, .int .i64 i] w fun en w' => ∃ u, en = .returned (.tuple #[u, .int .i64 x]) ∧ msgZero.From w.heap.size w' u ∧ Below w.heap.size w w' := by
  have hxb : (x != 0) = true := by simpa using hx
  obtain ⟨zs, hzs⟩ : ∃ zs : List Value, zs = [.int .i64 0, .int .i64 0, .int .i64 0, .int .i64 0, .int .i64 0, .int .i64 0, .int .i64 0, .int .i64 0, .int .i64 0, .int .i64 0, .bool false, .int .i64 0, .int .i64 0, .int .i64 0, .int .i64 0, .int .i64 0, .int .i64 0, .int .i64 0, .int .i64 0, .int .i64 0, .string ⟨#[]⟩, .int .i64 0, .int .i64 0, .int .i64 0, .int .i64 0, .slice none 0 0, .slice none 0 0, .int .i64 0] := ⟨_, rfl⟩
  have hzl : zs.length = 28 := by rw [hzs]; rfl
  have hz1 : zs.toArray.all (·.oneCell') = true := by rw [hzs]; simp [Value.oneCell']
  go_enter Tryz.func13, Tryz.ntmps13
  go_upto_region 1 with (fail)
  have hD : BlkAt (w.alloc (.cells #[.int .i64 0, .int .i64 0, .int .i64 0, .int .i64 0, .int .i64 0, .int .i64 0, .int .i64 0, .int .i64 0, .int .i64 0, .int .i64 0, .bool false, .int .i64 0, .int .i64 0, .int .i64 0, .int .i64 0, .int .i64 0, .int .i64 0, .int .i64 0, .int .i64 0, .int .i64 0, .string ⟨#[]⟩, .int .i64 0, .int .i64 0, .int .i64 0, .int .i64 0, .slice none 0 0, .slice none 0 0, .int .i64 0] 40)) w.heap.size 40 [.int .i64 0, .int .i64 0, .int .i64 0, .int .i64 0, .int .i64 0, .int .i64 0, .int .i64 0, .int .i64 0, .int .i64 0, .int .i64 0, .bool false, .int .i64 0, .int .i64 0, .int .i64 0, .int .i64 0, .int .i64 0, .int .i64 0, .int .i64 0, .int .i64 0, .int .i64 0, .string ⟨#[]⟩, .int .i64 0, .int .i64 0, .int .i64 0, .int .i64 0, .slice none 0 0, .slice none 0 0, .int .i64 0] := BlkAt.new w 40 [.int .i64 0, .int .i64 0, .int .i64 0, .int .i64 0, .int .i64 0, .int .i64 0, .int .i64 0, .int .i64 0, .int .i64 0, .int .i64 0, .bool false, .int .i64 0, .int .i64 0, .int .i64 0, .int .i64 0, .int .i64 0, .int .i64 0, .int .i64 0, .int .i64 0, .int .i64 0, .string ⟨#[]⟩, .int .i64 0, .int .i64 0, .int .i64 0, .int .i64 0, .slice none 0 0, .slice none 0 0, .int .i64 0]
  have hb : Below w.heap.size w (w.alloc (.cells #[.int .i64 0, .int .i64 0, .int .i64 0, .int .i64 0, .int .i64 0, .int .i64 0, .int .i64 0, .int .i64 0, .int .i64 0, .int .i64 0, .bool false, .int .i64 0, .int .i64 0, .int .i64 0, .int .i64 0, .int .i64 0, .int .i64 0, .int .i64 0, .int .i64 0, .int .i64 0, .string ⟨#[]⟩, .int .i64 0, .int .i64 0, .int .i64 0, .int .i64 0, .slice none 0 0, .slice none 0 0, .int .i64 0] 40)) := (Below.refl w.heap.size w).alloc (Nat.le_refl _) _
  have hWs : w.heap.size + 1 ≤ (w.alloc (.cells #[.int .i64 0, .int .i64 0, .int .i64 0, .int .i64 0, .int .i64 0, .int .i64 0, .int .i64 0, .int .i64 0, .int .i64 0, .int .i64 0, .bool false, .int .i64 0, .int .i64 0, .int .i64 0, .int .i64 0, .int .i64 0, .int .i64 0, .int .i64 0, .int .i64 0, .int .i64 0, .string ⟨#[]⟩, .int .i64 0, .int .i64 0, .int .i64 0, .int .i64 0, .slice none 0 0, .slice none 0 0, .int .i64 0] 40)).heap.size := by simp
  change Code.wp _ _ _ _ (w.alloc (.cells #[.int .i64 0, .int .i64 0, .int .i64 0, .int .i64 0, .int .i64 0, .int .i64 0, .int .i64 0, .int .i64 0, .int .i64 0, .int .i64 0, .bool false, .int .i64 0, .int .i64 0, .int .i64 0, .int .i64 0, .int .i64 0, .int .i64 0, .int .i64 0, .int .i64 0, .int .i64 0, .string ⟨#[]⟩, .int .i64 0, .int .i64 0, .int .i64 0, .int .i64 0, .slice none 0 0, .slice none 0 0, .int .i64 0] 40))
  generalize w.alloc (.cells #[.int .i64 0, .int .i64 0, .int .i64 0, .int .i64 0, .int .i64 0, .int .i64 0, .int .i64 0, .int .i64 0, .int .i64 0, .int .i64 0, .bool false, .int .i64 0, .int .i64 0, .int .i64 0, .int .i64 0, .int .i64 0, .int .i64 0, .int .i64 0, .int .i64 0, .int .i64 0, .string ⟨#[]⟩, .int .i64 0, .int .i64 0, .int .i64 0, .int .i64 0, .slice none 0 0, .slice none 0 0, .int .i64 0] 40) = W at *
  obtain ⟨D, hDD⟩ : ∃ D, D = w.heap.size := ⟨_, rfl⟩
  have hDw : w.heap.size ≤ D := Nat.le_of_eq hDD.symm
  have hDw2 : D ≤ w.heap.size := Nat.le_of_eq hDD
  have hDs : D + 1 ≤ W.heap.size := by omega
  rw [← hzs] at hD
  rw [← hDD] at hD ⊢
  clear hDD hWs
  have hz : ∀ w, (zeroValue 40).run Tryz.prog w = .ok (.agg zs.toArray) w := fun w => by rw [hzs]; kernel_rfl
  clear hz
  go_wp2_with fail
  refine (hpk W hb).mono ?_
  rintro en w1 ⟨u, rfl, hF, b1⟩
  obtain ⟨es, rfl, hlen2, hone2, hF2⟩ := From.parts hF rfl
  have hD := hD.below b1
  have hbq := below_step hb b1
  clear hb
  have hb := hbq
  clear hbq hF
  have hF3 : msgZero.From (D + 1) w1 (.agg es.toArray) := hF2.mono (by omega)
  have hDs1 : D + 1 ≤ w1.heap.size := by have := b1.size; omega
  clear hF2 b1 hDs
  have hX := BlkAt.new w1 40 [.int .i64 0, .int .i64 0, .int .i64 0, .int .i64 0, .int .i64 0, .int .i64 0, .int .i64 0, .int .i64 0, .int .i64 0, .int .i64 0, .bool false, .int .i64 0, .int .i64 0, .int .i64 0, .int .i64 0, .int .i64 0, .int .i64 0, .int .i64 0, .int .i64 0, .int .i64 0, .string ⟨#[]⟩, .int .i64 0, .int .i64 0, .int .i64 0, .int .i64 0, .slice none 0 0, .slice none 0 0, .int .i64 0]
  have HL1 := Lib.hid (show es.length = ([.int .i64 0, .int .i64 0, .int .i64 0, .int .i64 0, .int .i64 0, .int .i64 0, .int .i64 0, .int .i64 0, .int .i64 0, .int .i64 0, .bool false, .int .i64 0, .int .i64 0, .int .i64 0, .int .i64 0, .int .i64 0, .int .i64 0, .int .i64 0, .int .i64 0, .int .i64 0, .string ⟨#[]⟩, .int .i64 0, .int .i64 0, .int .i64 0, .int .i64 0, .slice none 0 0, .slice none 0 0, .int .i64 0] : List Value).length by rw [hlen2]; rfl)
  have b4 := (Below.refl w1.heap.size w1).alloc (Nat.le_refl _) (.cells #[.int .i64 0, .int .i64 0, .int .i64 0, .int .i64 0, .int .i64 0, .int .i64 0, .int .i64 0, .int .i64 0, .int .i64 0, .int .i64 0, .bool false, .int .i64 0, .int .i64 0, .int .i64 0, .int .i64 0, .int .i64 0, .int .i64 0, .int .i64 0, .int .i64 0, .int .i64 0, .string ⟨#[]⟩, .int .i64 0, .int .i64 0, .int .i64 0, .int .i64 0, .slice none 0 0, .slice none 0 0, .int .i64 0] 40)
  have G4 := grown_setCells w1.heap.size es 0 (w1.alloc (.cells #[.int .i64 0, .int .i64 0, .int .i64 0, .int .i64 0, .int .i64 0, .int .i64 0, .int .i64 0, .int .i64 0, .int .i64 0, .int .i64 0, .bool false, .int .i64 0, .int .i64 0, .int .i64 0, .int .i64 0, .int .i64 0, .int .i64 0, .int .i64 0, .int .i64 0, .int .i64 0, .string ⟨#[]⟩, .int .i64 0, .int .i64 0, .int .i64 0, .int .i64 0, .slice none 0 0, .slice none 0 0, .int .i64 0] 40))
  have b5 := b4.grown G4 b4.size (by intro j hj; cases hj; exact Nat.le_refl _)
  have hYn := hX.stored (vs := es) HL1.out
  have HT := Lib.hid (blk_there2 hX HL1.out)
  have hDn := hD.below b5
  clear hD
  have hD := hDn
  clear hDn
  have hF3n := hF3.below b5
  clear hF3
  have hF3 := hF3n
  clear hF3n
  have hbn := below_step hb b5
  clear hb
  have hb := hbn
  clear hbn
  clear hX b4 G4 b5 HL1
  go_upto_region 2 with (first | (refine wpList_store_mid rfl 40 (.tmp 6) (.tmp 14) rfl w1.heap.size 0 es.toArray rfl rfl (by exact HT.out) (by rw [List.size_toArray, hlen2]; exact msg_info) hone2 ?_; rw [List.toList_toArray]))
  change Code.wp _ _ _ _ ((w1.alloc (.cells #[.int .i64 0, .int .i64 0, .int .i64 0, .int .i64 0, .int .i64 0, .int .i64 0, .int .i64 0, .int .i64 0, .int .i64 0, .int .i64 0, .bool false, .int .i64 0, .int .i64 0, .int .i64 0, .int .i64 0, .int .i64 0, .int .i64 0, .int .i64 0, .int .i64 0, .int .i64 0, .string ⟨#[]⟩, .int .i64 0, .int .i64 0, .int .i64 0, .int .i64 0, .slice none 0 0, .slice none 0 0, .int .i64 0] 40)).setCells w1.heap.size 0 es)
  generalize (w1.alloc (.cells #[.int .i64 0, .int .i64 0, .int .i64 0, .int .i64 0, .int .i64 0, .int .i64 0, .int .i64 0, .int .i64 0, .int .i64 0, .int .i64 0, .bool false, .int .i64 0, .int .i64 0, .int .i64 0, .int .i64 0, .int .i64 0, .int .i64 0, .int .i64 0, .int .i64 0, .int .i64 0, .string ⟨#[]⟩, .int .i64 0, .int .i64 0, .int .i64 0, .int .i64 0, .slice none 0 0, .slice none 0 0, .int .i64 0] 40)).setCells w1.heap.size 0 es = W2 at *
  have hY := hYn
  clear hYn HT
  obtain ⟨y, hLL⟩ : ∃ q, q = w1.heap.size := ⟨_, rfl⟩
  rw [← hLL] at hY ⊢
  have HEy := Lib.hid hLL
  clear hLL
  have hl2 : es.length = zs.length := by rw [hlen2, hzl]
  have HM2 := Lib.hid (hD.stored (vs := es) hl2)
  have HT2 := Lib.hid (blk_there2 hD hl2)
  have G := grown_setCells D es 0 W2
  have HLN := Lib.hid hlen2
  have HB2 := Lib.hid (grown_below hb G hDw)
  have HF2 := Lib.hid ((hF3.grown G (by omega)).mono (show w.heap.size ≤ D + 1 by omega))
  clear hF3 hD hb G hl2
  go_wp2_with (first | (refine wpList_load_mid rfl 40 (.tmp 6) rfl y 0 rfl es _ hY.range Tryz.underlying40 rfl (by rw [hlen2]; exact msg_info) ?_; simp only [Act.put, List.setIfInBounds_toArray, List.set_cons_zero, List.set_cons_succ]) | (refine wpList_store_mid rfl 40 (.tmp 4) (.tmp 18) rfl D 0 es.toArray rfl rfl (by exact HT2.out) (by rw [List.size_toArray, hlen2]; exact msg_info) hone2 ?_; rw [List.toList_toArray]))
  exact bodyPost_ret (v := .tuple #[.agg es.toArray, .int .i64 x]) (results_msg rfl rfl rfl HM2.out HLN.out) rfl ⟨_, rfl, HF2.out, HB2.out⟩
theorem ntake_none {B b : Nat} {w : World} {v : Value} {s t : Int} (h : NetAt B w b v [] s t) (i : Int) :
    Calls Tryz.prog 13 #[.pointer (some ⟨b, 0, none⟩), .int .i64 i] w fun en w' => ∃ u, en = .returned (.tuple #[u, .int .i64 10]) ∧ msgZero.From w.heap.size w' u ∧ Below w.heap.size w w' :=
  ntake_fail (by decide) fun W hb => npeek_none (h.below hb) i
theorem ntake_nil (i : Int) (w : World) :
    Calls Tryz.prog 13 #[.pointer none, .int .i64 i] w fun en w' => ∃ u, en = .returned (.tuple #[u, .int .i64 12]) ∧ msgZero.From w.heap.size w' u ∧ Below w.heap.size w w' :=
  ntake_fail (by decide) fun W hb => npeek_nil i W
set_option maxRecDepth 100000 in
set_option maxHeartbeats 4000000 in

theorem ntake_any {B b : Nat} {w : World} {v : Value} {L : List MsgV} {s t : Int} (h : NetAt B w b v L s t) (hL : L ≠ []) (hl : L.length ≤ 1000000) (ht : 0 ≤ t ∧ t ≤ 1000000000) {i : Int} (hi : W64 i) {M : MsgV} (hM : L[placeN i L.length]? = some M) :
    Calls Tryz.prog 13 #[.pointer (some ⟨b, 0, none⟩), .int .i64 i] w fun en w' => ∃ u v', en = .returned (.tuple #[u, .int .i64 0]) ∧ M.From w.heap.size w' u ∧ NetAt B w' b v' (takeN_ L i) s (t + 1) ∧ NKept w w' b v.ownBlock ∧ v'.ownBlock = v.ownBlock := by
  have hG := h.goes hM
  have hbl := h.lt
  have hrl := h.row
  obtain ⟨A, cap, rfl⟩ := h.form
  have hlt : placeN i L.length < L.length := placeN_lt i (List.length_pos_iff.2 hL)
  have HT := Lib.hid ht
  clear ht
  obtain ⟨zs, hzs⟩ : ∃ zs : List Value, zs = [.int .i64 0, .int .i64 0, .int .i64 0, .int .i64 0, .int .i64 0, .int .i64 0, .int .i64 0, .int .i64 0, .int .i64 0, .int .i64 0, .bool false, .int .i64 0, .int .i64 0, .int .i64 0, .int .i64 0, .int .i64 0, .int .i64 0, .int .i64 0, .int .i64 0, .int .i64 0, .string ⟨#[]⟩, .int .i64 0, .int .i64 0, .int .i64 0, .int .i64 0, .slice none 0 0, .slice none 0 0, .int .i64 0] := ⟨_, rfl⟩
  have hzl : zs.length = 28 := by rw [hzs]; rfl
  have hz1 : zs.toArray.all (·.oneCell') = true := by rw [hzs]; simp [Value.oneCell']
  go_enter Tryz.func13, Tryz.ntmps13
  go_upto_region 1 with (fail)
  have hD : BlkAt (w.alloc (.cells #[.int .i64 0, .int .i64 0, .int .i64 0, .int .i64 0, .int .i64 0, .int .i64 0, .int .i64 0, .int .i64 0, .int .i64 0, .int .i64 0, .bool false, .int .i64 0, .int .i64 0, .int .i64 0, .int .i64 0, .int .i64 0, .int .i64 0, .int .i64 0, .int .i64 0, .int .i64 0, .string ⟨#[]⟩, .int .i64 0, .int .i64 0, .int .i64 0, .int .i64 0, .slice none 0 0, .slice none 0 0, .int .i64 0] 40)) w.heap.size 40 [.int .i64 0, .int .i64 0, .int .i64 0, .int .i64 0, .int .i64 0, .int .i64 0, .int .i64 0, .int .i64 0, .int .i64 0, .int .i64 0, .bool false, .int .i64 0, .int .i64 0, .int .i64 0, .int .i64 0, .int .i64 0, .int .i64 0, .int .i64 0, .int .i64 0, .int .i64 0, .string ⟨#[]⟩, .int .i64 0, .int .i64 0, .int .i64 0, .int .i64 0, .slice none 0 0, .slice none 0 0, .int .i64 0] := BlkAt.new w 40 [.int .i64 0, .int .i64 0, .int .i64 0, .int .i64 0, .int .i64 0, .int .i64 0, .int .i64 0, .int .i64 0, .int .i64 0, .int .i64 0, .bool false, .int .i64 0, .int .i64 0, .int .i64 0, .int .i64 0, .int .i64 0, .int .i64 0, .int .i64 0, .int .i64 0, .int .i64 0, .string ⟨#[]⟩, .int .i64 0, .int .i64 0, .int .i64 0, .int .i64 0, .slice none 0 0, .slice none 0 0, .int .i64 0]
  have hb : Below w.heap.size w (w.alloc (.cells #[.int .i64 0, .int .i64 0, .int .i64 0, .int .i64 0, .int .i64 0, .int .i64 0, .int .i64 0, .int .i64 0, .int .i64 0, .int .i64 0, .bool false, .int .i64 0, .int .i64 0, .int .i64 0, .int .i64 0, .int .i64 0, .int .i64 0, .int .i64 0, .int .i64 0, .int .i64 0, .string ⟨#[]⟩, .int .i64 0, .int .i64 0, .int .i64 0, .int .i64 0, .slice none 0 0, .slice none 0 0, .int .i64 0] 40)) := (Below.refl w.heap.size w).alloc (Nat.le_refl _) _
  have hWs : w.heap.size + 1 ≤ (w.alloc (.cells #[.int .i64 0, .int .i64 0, .int .i64 0, .int .i64 0, .int .i64 0, .int .i64 0, .int .i64 0, .int .i64 0, .int .i64 0, .int .i64 0, .bool false, .int .i64 0, .int .i64 0, .int .i64 0, .int .i64 0, .int .i64 0, .int .i64 0, .int .i64 0, .int .i64 0, .int .i64 0, .string ⟨#[]⟩, .int .i64 0, .int .i64 0, .int .i64 0, .int .i64 0, .slice none 0 0, .slice none 0 0, .int .i64 0] 40)).heap.size := by simp
  change Code.wp _ _ _ _ (w.alloc (.cells #[.int .i64 0, .int .i64 0, .int .i64 0, .int .i64 0, .int .i64 0, .int .i64 0, .int .i64 0, .int .i64 0, .int .i64 0, .int .i64 0, .bool false, .int .i64 0, .int .i64 0, .int .i64 0, .int .i64 0, .int .i64 0, .int .i64 0, .int .i64 0, .int .i64 0, .int .i64 0, .string ⟨#[]⟩, .int .i64 0, .int .i64 0, .int .i64 0, .int .i64 0, .slice none 0 0, .slice none 0 0, .int .i64 0] 40))
  generalize w.alloc (.cells #[.int .i64 0, .int .i64 0, .int .i64 0, .int .i64 0, .int .i64 0, .int .i64 0, .int .i64 0, .int .i64 0, .int .i64 0, .int .i64 0, .bool false, .int .i64 0, .int .i64 0, .int .i64 0, .int .i64 0, .int .i64 0, .int .i64 0, .int .i64 0, .int .i64 0, .int .i64 0, .string ⟨#[]⟩, .int .i64 0, .int .i64 0, .int .i64 0, .int .i64 0, .slice none 0 0, .slice none 0 0, .int .i64 0] 40) = W at *
  obtain ⟨D, hDD⟩ : ∃ D, D = w.heap.size := ⟨_, rfl⟩
  have hDw : w.heap.size ≤ D := Nat.le_of_eq hDD.symm
  have hDw2 : D ≤ w.heap.size := Nat.le_of_eq hDD
  have hDs : D + 1 ≤ W.heap.size := by omega
  rw [← hzs] at hD
  rw [← hDD] at hD ⊢
  clear hDD hWs
  have hz : ∀ w, (zeroValue 40).run Tryz.prog w = .ok (.agg zs.toArray) w := fun w => by rw [hzs]; kernel_rfl
  clear hz
  have hN := h.below hb
  clear h
  go_wp2_with fail
  refine (npeek_any (by exact hN) hL hl hi hM).mono ?_
  rintro en w1 ⟨u, rfl, hF, b1⟩
  obtain ⟨es, rfl, hlen2, hone2, hF2⟩ := From.parts hF hG.ok.op.1
  have hD := hD.below b1
  have hN := hN.below b1
  have hbq := below_step hb b1
  clear hb
  have hb := hbq
  clear hbq hF
  have hF3 : M.From (D + 1) w1 (.agg es.toArray) := hF2.mono (by omega)
  have hDs1 : D + 1 ≤ w1.heap.size := by have := b1.size; omega
  clear hF2 b1 hDs
  have hX := BlkAt.new w1 40 [.int .i64 0, .int .i64 0, .int .i64 0, .int .i64 0, .int .i64 0, .int .i64 0, .int .i64 0, .int .i64 0, .int .i64 0, .int .i64 0, .bool false, .int .i64 0, .int .i64 0, .int .i64 0, .int .i64 0, .int .i64 0, .int .i64 0, .int .i64 0, .int .i64 0, .int .i64 0, .string ⟨#[]⟩, .int .i64 0, .int .i64 0, .int .i64 0, .int .i64 0, .slice none 0 0, .slice none 0 0, .int .i64 0]
  have HL1 := Lib.hid (show es.length = ([.int .i64 0, .int .i64 0, .int .i64 0, .int .i64 0, .int .i64 0, .int .i64 0, .int .i64 0, .int .i64 0, .int .i64 0, .int .i64 0, .bool false, .int .i64 0, .int .i64 0, .int .i64 0, .int .i64 0, .int .i64 0, .int .i64 0, .int .i64 0, .int .i64 0, .int .i64 0, .string ⟨#[]⟩, .int .i64 0, .int .i64 0, .int .i64 0, .int .i64 0, .slice none 0 0, .slice none 0 0, .int .i64 0] : List Value).length by rw [hlen2]; rfl)
  have b4 := (Below.refl w1.heap.size w1).alloc (Nat.le_refl _) (.cells #[.int .i64 0, .int .i64 0, .int .i64 0, .int .i64 0, .int .i64 0, .int .i64 0, .int .i64 0, .int .i64 0, .int .i64 0, .int .i64 0, .bool false, .int .i64 0, .int .i64 0, .int .i64 0, .int .i64 0, .int .i64 0, .int .i64 0, .int .i64 0, .int .i64 0, .int .i64 0, .string ⟨#[]⟩, .int .i64 0, .int .i64 0, .int .i64 0, .int .i64 0, .slice none 0 0, .slice none 0 0, .int .i64 0] 40)
  have G4 := grown_setCells w1.heap.size es 0 (w1.alloc (.cells #[.int .i64 0, .int .i64 0, .int .i64 0, .int .i64 0, .int .i64 0, .int .i64 0, .int .i64 0, .int .i64 0, .int .i64 0, .int .i64 0, .bool false, .int .i64 0, .int .i64 0, .int .i64 0, .int .i64 0, .int .i64 0, .int .i64 0, .int .i64 0, .int .i64 0, .int .i64 0, .string ⟨#[]⟩, .int .i64 0, .int .i64 0, .int .i64 0, .int .i64 0, .slice none 0 0, .slice none 0 0, .int .i64 0] 40))
  have b5 := b4.grown G4 b4.size (by intro j hj; cases hj; exact Nat.le_refl _)
  have hYn := hX.stored (vs := es) HL1.out
  have HT := Lib.hid (blk_there2 hX HL1.out)
  have hDn := hD.below b5
  clear hD
  have hD := hDn
  clear hDn
  have hF3n := hF3.below b5
  clear hF3
  have hF3 := hF3n
  clear hF3n
  have hNn := hN.below b5
  clear hN
  have hN := hNn
  clear hNn
  have hbn := below_step hb b5
  clear hb
  have hb := hbn
  clear hbn
  clear hX b4 G4 b5 HL1
  go_upto_region 2 with (first | (refine wpList_store_mid rfl 40 (.tmp 6) (.tmp 14) rfl w1.heap.size 0 es.toArray rfl rfl (by exact HT.out) (by rw [List.size_toArray, hlen2]; exact msg_info) hone2 ?_; rw [List.toList_toArray]))
  change Code.wp _ _ _ _ ((w1.alloc (.cells #[.int .i64 0, .int .i64 0, .int .i64 0, .int .i64 0, .int .i64 0, .int .i64 0, .int .i64 0, .int .i64 0, .int .i64 0, .int .i64 0, .bool false, .int .i64 0, .int .i64 0, .int .i64 0, .int .i64 0, .int .i64 0, .int .i64 0, .int .i64 0, .int .i64 0, .int .i64 0, .string ⟨#[]⟩, .int .i64 0, .int .i64 0, .int .i64 0, .int .i64 0, .slice none 0 0, .slice none 0 0, .int .i64 0] 40)).setCells w1.heap.size 0 es)
  generalize (w1.alloc (.cells #[.int .i64 0, .int .i64 0, .int .i64 0, .int .i64 0, .int .i64 0, .int .i64 0, .int .i64 0, .int .i64 0, .int .i64 0, .int .i64 0, .bool false, .int .i64 0, .int .i64 0, .int .i64 0, .int .i64 0, .int .i64 0, .int .i64 0, .int .i64 0, .int .i64 0, .int .i64 0, .string ⟨#[]⟩, .int .i64 0, .int .i64 0, .int .i64 0, .int .i64 0, .slice none 0 0, .slice none 0 0, .int .i64 0] 40)).setCells w1.heap.size 0 es = W2 at *
  have hY := hYn
  clear hYn HT
  obtain ⟨y, hLL⟩ : ∃ q, q = w1.heap.size := ⟨_, rfl⟩
  rw [← hLL] at hY ⊢
  have HEy := Lib.hid hLL
  clear hLL
  go_wp2_with fail
  refine (nplace_any (by exact hN) hL hl hi).mono ?_
  rintro en w3 ⟨rfl, rfl⟩
  have HK0 : Hid (takeN_ L i = L.eraseIdx (placeN i L.length)) := Lib.hid rfl
  generalize placeN i L.length = k at *
  have hkk : (k : Int) + 1 ≤ 9223372036854775807 := by omega
  obtain ⟨g, rfl, hc⟩ := hN.text hM
  have hgl := hrl g rfl
  have c0 := hN.cell0
  have hown : W2.ownsRow B 9 1 (.slice (some ⟨g, 0, none⟩) (L.map ptext).length cap) (L.map ptext).length (strsCells (L.map ptext)) := by rw [List.length_map]; exact hN.2.2.1
  have hdel := ndelete_any hown (k := k) (by rw [List.length_map]; exact hlt) (by rw [List.length_map]; exact hl)
  rw [List.length_map] at hdel
  clear hc hown
  go_wp2_with fail
  refine hdel.mono ?_
  rintro en w4 ⟨rfl, hown4, hg4⟩
  have hgb : some b ≠ some g := by have := hN.apart; simpa [Value.ownBlock] using this
  have hgb' : b ≠ g := fun e => hgb (by rw [e])
  have hgD : D ≠ g := by omega
  have hyg : y ≠ g := by rw [HEy.out]; omega
  have hyb : y ≠ b := by rw [HEy.out]; omega
  have hbD : b ≠ D := by omega
  have hbk4 : w4.heap[b]? = some (.cells #[.slice (some ⟨g, 0, none⟩) L.length cap, .int .i64 s, .int .i64 t] 76 (0, 0)) := (hg4.block b hN.lt hgb).trans hN.2.1
  have hD4 := hD.grown hg4 hgD
  have hY4 := hY.grown hg4 hyg
  have hF4 := hF3.grown hg4 (by omega)
  have hLe : strsCells ((L.map ptext).eraseIdx k) = strsCells ((L.eraseIdx k).map ptext) := by rw [List.eraseIdx_eq_take_drop_succ, List.eraseIdx_eq_take_drop_succ, List.map_append, List.map_take, List.map_drop]
  have hle : (L.eraseIdx k).length = L.length - 1 := by rw [List.length_eraseIdx, if_pos hlt]
  rw [hLe] at hown4
  have hgo : ∀ K ∈ L.eraseIdx k, Goes K := fun K hK => hN.2.2.2 K (List.mem_of_mem_eraseIdx hK)
  have hN5 : NetAt B (w4.setCell ⟨b, 0, none⟩ (.slice (some ⟨g, 0, none⟩) (L.length - 1) cap)) b (.slice (some ⟨g, 0, none⟩) (L.length - 1) cap) (L.eraseIdx k) s t := NetAt.put0 hN.1 hbk4 (by rw [hle]; exact hown4) hgo
  have G5 := grown_setCell w4 b 0 (.slice (some ⟨g, 0, none⟩) (L.length - 1) cap)
  have hD5 := hD4.grown G5 hbD.symm
  have hY5 := hY4.grown G5 hyb
  have hF5 := hF4.grown G5 (by omega)
  have hk5 : NKept w (w4.setCell ⟨b, 0, none⟩ (.slice (some ⟨g, 0, none⟩) (L.length - 1) cap)) b (some g) := ((NKept.of_below hb).trans (NKept.of_grown hg4)).trans (NKept.of_grownB G5)
  have c04 := cell_of_row _ _ 0 _ _ _ hbk4
  have hf4 : w4.frozen? ⟨b, 0, none⟩ = false := by simp [World.frozen?, hbk4]
  have HN5 := Lib.hid hN5
  have HD5 := Lib.hid hD5
  have HY5 := Lib.hid hY5
  have HF5 := Lib.hid hF5
  have HK5 := Lib.hid hk5
  clear hN hD hY hF3 hb hown4 hg4 hbk4 hD4 hY4 hF4 hN5 G5 hD5 hY5 hF5 hk5 hdel c0
  go_upto_region 6 with (fail)
  change Code.wp _ _ _ _ (w4.setCell ⟨b, 0, none⟩ (.slice (some ⟨g, 0, none⟩) (L.length - 1) cap))
  generalize w4.setCell ⟨b, 0, none⟩ (.slice (some ⟨g, 0, none⟩) (L.length - 1) cap) = w5 at *
  have hN := HN5.out
  have c2 := hN.cell2
  have hf2 := hN.free 2
  have G6 := grown_setCell w5 b 2 (.int .i64 (t + 1))
  have HN6 := Lib.hid (hN.set2 (t + 1))
  have hD := HD5.out.grown G6 hbD.symm
  have hY := HY5.out.grown G6 hyb
  have HF6 := Lib.hid (HF5.out.grown G6 (by omega))
  have HK6 := Lib.hid (HK5.out.trans (NKept.of_grownB G6))
  clear hN G6 HN5 HD5 HY5 HF5 HK5 c04 hf4
  go_wp2_with fail
  refine (aadd_any (by exact c2) (by exact hf2) HT.out).mono ?_
  rintro en w55 ⟨rfl, rfl⟩
  clear c2 hf2
  go_upto_region 7 with (fail)
  change Code.wp _ _ _ _ (w5.setCell ⟨b, 2, none⟩ (.int .i64 (t + 1)))
  generalize w5.setCell ⟨b, 2, none⟩ (.int .i64 (t + 1)) = w6 at *
  have hl2 : es.length = zs.length := by rw [hlen2, hzl]
  have HM2 := Lib.hid (hD.stored (vs := es) hl2)
  have HT2 := Lib.hid (blk_there2 hD hl2)
  have G := grown_setCells D es 0 w6
  have HLN := Lib.hid hlen2
  have HF2 := Lib.hid ((HF6.out.grown G (by omega)).mono (show w.heap.size ≤ D + 1 by omega))
  have HN7 := Lib.hid (HN6.out.grown G (by simpa using hbD) (.inr (by simpa [Value.ownBlock] using hgD.symm)))
  have HK7 : Hid (NKept w (w6.setCells D 0 es) b (some g)) := Lib.hid ⟨G.os.trans HK6.out.os, G.tape.trans HK6.out.tape, G.output.trans HK6.out.output, Nat.le_trans HK6.out.size G.size, fun j hj h1 h2 => (G.block j (Nat.lt_of_lt_of_le hj HK6.out.size) (by simp; omega)).trans (HK6.out.block j hj h1 h2)⟩
  clear hD G HF6 HN6 HK6 hl2
  go_wp2_with (first | (refine wpList_load_mid rfl 40 (.tmp 6) rfl y 0 rfl es _ hY.range Tryz.underlying40 rfl (by rw [hlen2]; exact msg_info) ?_; simp only [Act.put, List.setIfInBounds_toArray, List.set_cons_zero, List.set_cons_succ]) | (refine wpList_store_mid rfl 40 (.tmp 4) (.tmp 42) rfl D 0 es.toArray rfl rfl (by exact HT2.out) (by rw [List.size_toArray, hlen2]; exact msg_info) hone2 ?_; rw [List.toList_toArray]))
  exact bodyPost_ret (v := .tuple #[.agg es.toArray, .int .i64 0]) (results_msg rfl rfl rfl HM2.out HLN.out) rfl ⟨_, .slice (some ⟨g, 0, none⟩) (L.length - 1) cap, rfl, HF2.out, by rw [HK0.out]; exact HN7.out, HK7.out, rfl⟩
set_option maxRecDepth 100000 in
set_option maxHeartbeats 1000000 in
theorem ncounts_any {B b : Nat} {w : World} {v : Value} {L : List MsgV} {s t : Int} (h : NetAt B w b v L s t) :
    Calls Tryz.prog 25 #[.pointer (some ⟨b, 0, none⟩)] w fun e w' => e = .returned (.tuple #[.int .i64 s, .int .i64 t]) ∧ ∃ n, w' = w.drewN n := by
  have c1 := h.cell1
  have c2 := h.cell2
  clear h
  go_enter Tryz.func25, Tryz.ntmps25
  go_upto_region 3 with (fail)
  go_region_held3 (fun w' => w'.cell? ⟨b, 1, none⟩ = some (.int .i64 s) ∧ w'.cell? ⟨b, 2, none⟩ = some (.int .i64 t))
    (first | exact ⟨c1, c2⟩ | go_keep)
    (first
      | (go_at_call 39; refine (aload_any (a := ⟨b, 1, none⟩) (by exact c1)).mono ?_; rintro en wz ⟨rfl, rfl⟩)
      | (go_at_call 39; refine (aload_any (a := ⟨b, 2, none⟩) (by exact c2)).mono ?_; rintro en wz ⟨rfl, rfl⟩))
  go_wp2_with fail
  go_ret2
  exact ⟨rfl, 1, rfl⟩
set_option maxRecDepth 100000 in
set_option maxHeartbeats 1000000 in

theorem ncopy_any {B b : Nat} {w : World} {v : Value} {L : List MsgV} {s t : Int} (h : NetAt B w b v L s t) (hl : L.length ≤ 1000000) :
    Calls Tryz.prog 24 #[.pointer (some ⟨b, 0, none⟩)] w fun e w' => ∃ c vc, e = .returned (.pointer (some ⟨c, 0, none⟩)) ∧ NetAt w.heap.size w' c vc L s t ∧ Below w.heap.size w w' := by
  have c0 := h.cell0
  have hcl := nclone_any (L := L.map ptext) (w := w) (by rw [List.length_map]; exact h.2.2.1) (by rw [List.length_map]; exact hl)
  rw [List.length_map] at hcl
  obtain ⟨A, cap, rfl⟩ := h.form
  go_enter Tryz.func24, Tryz.ntmps24
  go_wp2_with fail
  refine hcl.mono ?_
  rintro en w1 ⟨v', rfl, hown, b1⟩
  obtain ⟨A', cap', rfl⟩ := own_formN hown
  have h1 := h.below b1
  clear h c0 hcl
  go_upto_region 4 with (fail)
  change Code.wp _ _ _ _ (w1.alloc (.cells #[.slice A' L.length cap', .int .i64 0, .int .i64 0] 76))
  have hC : NetAt w.heap.size (w1.alloc (.cells #[.slice A' L.length cap', .int .i64 0, .int .i64 0] 76)) w1.heap.size (.slice A' L.length cap') L 0 0 := ⟨b1.size, heap_alloc_new _ _, hown.alloc _, h1.2.2.2⟩
  have hN := h1.below ((Below.refl w1.heap.size w1).alloc (Nat.le_refl _) (.cells #[.slice A' L.length cap', .int .i64 0, .int .i64 0] 76))
  have hb := b1.alloc b1.size (.cells #[.slice A' L.length cap', .int .i64 0, .int .i64 0] 76)
  have hcb : w1.heap.size ≠ b := by have := h1.lt; omega
  have hcw : w.heap.size ≤ w1.heap.size := b1.size
  have hcv : (Value.slice A L.length cap).ownBlock = none ∨ (Value.slice A L.length cap).ownBlock ≠ some w1.heap.size := .inr fun e => by have := (h1.row _ e).2; omega
  clear h1 hown b1
  generalize w1.alloc (.cells #[.slice A' L.length cap', .int .i64 0, .int .i64 0] 76) = W at *
  generalize w1.heap.size = c at *
  have n1 := hN.cell1
  have n2 := hN.cell2
  have c1 := hC.cell1
  have hf := hC.free 1
  go_region_held3 (fun w' => True)
    (first | trivial | go_keep)
    (first
      | (go_at_call 39; refine (aload_any (a := ⟨b, 1, none⟩) (by exact n1)).mono ?_; rintro en wz ⟨rfl, rfl⟩)
      | (go_at_call 38; refine (astore_any (by exact c1) (by exact hf)).mono ?_; rintro en wz ⟨rfl, rfl⟩))
  have hC2 : NetAt w.heap.size (W.drew.setCell ⟨c, 1, none⟩ (.int .i64 s)) c (.slice A' L.length cap') L s 0 := NetAt.set1 (w := W.drew) hC s
  have G := grown_setCell W.drew c 1 (.int .i64 s)
  have hN2 : NetAt B (W.drew.setCell ⟨c, 1, none⟩ (.int .i64 s)) b (.slice A L.length cap) L s t := NetAt.grown (w := W.drew) hN G (by simpa using hcb.symm) hcv
  have hb2 : Below w.heap.size w (W.drew.setCell ⟨c, 1, none⟩ (.int .i64 s)) := grown_below (below_drewN hb 1) G hcw
  clear hC hN hb G n1 n2 c1 hf
  go_upto_region 5 with (fail)
  change Code.wp _ _ _ _ (W.drew.setCell ⟨c, 1, none⟩ (.int .i64 s))
  generalize W.drew.setCell ⟨c, 1, none⟩ (.int .i64 s) = W2 at *
  have n2 := hN2.cell2
  have c2 := hC2.cell2
  have hf := hC2.free 2
  go_region_held3 (fun w' => True)
    (first | trivial | go_keep)
    (first
      | (go_at_call 39; refine (aload_any (a := ⟨b, 2, none⟩) (by exact n2)).mono ?_; rintro en wz ⟨rfl, rfl⟩)
      | (go_at_call 38; refine (astore_any (by exact c2) (by exact hf)).mono ?_; rintro en wz ⟨rfl, rfl⟩))
  have hC3 := Lib.hid (show NetAt w.heap.size (W2.drew.setCell ⟨c, 2, none⟩ (.int .i64 t)) c (.slice A' L.length cap') L s t from NetAt.set2 (w := W2.drew) hC2 t)
  have hb3 := Lib.hid (show Below w.heap.size w (W2.drew.setCell ⟨c, 2, none⟩ (.int .i64 t)) from grown_below (below_drewN hb2 1) (grown_setCell W2.drew c 2 (.int .i64 t)) hcw)
  clear hC2 hN2 hb2 n2 c2 hf
  go_wp2_with fail
  go_ret
  exact ⟨_, _, rfl, hC3.out, hb3.out⟩
/-- A message's value stays as it was where a network changes. -/
theorem From.nkept {M : MsgV} {n b : Nat} {w w' : World} {u : Value} {r : Option Nat} (h : M.From n w u) (hk : NKept w w' b r) (hb : b < n) (hr : ∀ j, r = some j → j < n) : M.From n w' u := by
  obtain ⟨v1, v2, rfl, h1, h2⟩ := h
  cases r with
  | none =>
    have hR : RKeep w w' b b := ⟨hk.os, hk.tape, hk.output, hk.size, fun k hlt h3 _ => hk.block k hlt h3 (by simp)⟩
    exact ⟨v1, v2, rfl, h1.rkeep hR hb hb, h2.rkeep hR hb hb⟩
  | some j =>
    have hR : RKeep w w' b j := ⟨hk.os, hk.tape, hk.output, hk.size, fun k hlt h3 h4 => hk.block k hlt h3 (by simpa using h4)⟩
    exact ⟨v1, v2, rfl, h1.rkeep hR hb (hr j rfl), h2.rkeep hR hb (hr j rfl)⟩
end Go.Proofs.YtnaabaahfjklhaaGreat
