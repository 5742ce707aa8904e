/- The law's setup, and its beats. -/
import Derived.Test.YtomfmejodmfioaaGreatMstMay
import Derived.Test.YtomfmejodmfioaaGreatKMst3
import Derived.Test.YtomfmejodmfioaaGreatMstInv
import Derived.Laws.Rows
namespace Go.Proofs.YtomfmejodmfioaaGreat
open Go.RowKit Go.Maps Go.ChangeShapes Go.WideShapes Go.Joins Go.Deep
set_option linter.unusedVariables false

set_option maxRecDepth 100000 in
set_option maxHeartbeats 4000000 in

theorem setup15_any (w : World) : Calls Tryz.prog 30 #[] w fun e w' => e = .returned (.agg (setC7 set3).toArray) ∧ Below w.heap.size w w' := by
  go_enter Tryz.func30, Tryz.ntmps30
  go_upto_region 1 with (fail)
  have hD : BlkAt (w.alloc (.cells #[.int .i64 0, .int .i64 0, .int .i64 0, .int .i64 0, .int .i64 0, .int .i64 0, .int .i64 0] 23)) w.heap.size 23 [.int .i64 0, .int .i64 0, .int .i64 0, .int .i64 0, .int .i64 0, .int .i64 0, .int .i64 0] := BlkAt.new w 23 [.int .i64 0, .int .i64 0, .int .i64 0, .int .i64 0, .int .i64 0, .int .i64 0, .int .i64 0]
  have hb : Below w.heap.size w (w.alloc (.cells #[.int .i64 0, .int .i64 0, .int .i64 0, .int .i64 0, .int .i64 0, .int .i64 0, .int .i64 0] 23)) := (Below.refl w.heap.size w).alloc (Nat.le_refl _) _
  have hWs : w.heap.size + 1 ≤ (w.alloc (.cells #[.int .i64 0, .int .i64 0, .int .i64 0, .int .i64 0, .int .i64 0, .int .i64 0, .int .i64 0] 23)).heap.size := by simp
  change Code.wp _ _ _ _ (w.alloc (.cells #[.int .i64 0, .int .i64 0, .int .i64 0, .int .i64 0, .int .i64 0, .int .i64 0, .int .i64 0] 23))
  generalize w.alloc (.cells #[.int .i64 0, .int .i64 0, .int .i64 0, .int .i64 0, .int .i64 0, .int .i64 0, .int .i64 0] 23) = W at *
  obtain ⟨D, hDD⟩ : ∃ D, D = w.heap.size := ⟨_, rfl⟩
  have hDn : w.heap.size ≤ D := Nat.le_of_eq hDD.symm
  rw [← hDD] at hD ⊢
  clear hDD hWs
  have c0 : W.cell? ⟨D, 0, none⟩ = some (.int .i64 0) := hD.cell rfl
  have c1 : W.cell? ⟨D, 1, none⟩ = some (.int .i64 0) := hD.cell rfl
  have c2 : W.cell? ⟨D, 2, none⟩ = some (.int .i64 0) := hD.cell rfl
  have c3 : W.cell? ⟨D, 3, none⟩ = some (.int .i64 0) := hD.cell rfl
  have c4 : W.cell? ⟨D, 4, none⟩ = some (.int .i64 0) := hD.cell rfl
  have c5 : W.cell? ⟨D, 5, none⟩ = some (.int .i64 0) := hD.cell rfl
  have c6 : W.cell? ⟨D, 6, none⟩ = some (.int .i64 0) := hD.cell rfl
  have hf := hD.free
  have HB := Lib.hid hb
  clear hb
  go_wp2_with fail
  have hE := hD.stored (vs := setC7 set3) rfl
  have G := grown_setCells D (setC7 set3) 0 W
  have hb5 := HB.out.grown G HB.out.size (by intro j hj; cases hj; exact hDn)
  clear hD hf c0 c1 c2 c3 c4 c5 c6 HB G
  change bodyPost _ _ _ _ _ (W.setCells D 0 (setC7 set3))
  generalize W.setCells D 0 (setC7 set3) = W9 at *
  have d0 : W9.cell? ⟨D, 0, none⟩ = some (.int .i64 3) := hE.cell rfl
  have d1 : W9.cell? ⟨D, 1, none⟩ = some (.int .i64 1) := hE.cell rfl
  have d2 : W9.cell? ⟨D, 2, none⟩ = some (.int .i64 4) := hE.cell rfl
  have d3 : W9.cell? ⟨D, 3, none⟩ = some (.int .i64 3) := hE.cell rfl
  have d4 : W9.cell? ⟨D, 4, none⟩ = some (.int .i64 5) := hE.cell rfl
  have d5 : W9.cell? ⟨D, 5, none⟩ = some (.int .i64 0) := hE.cell rfl
  have d6 : W9.cell? ⟨D, 6, none⟩ = some (.int .i64 0) := hE.cell rfl
  exact bodyPost_ret (v := .agg (setC7 set3).toArray) (by simp [results, Tryz.results30, go_sem, d0, d1, d2, d3, d4, d5, d6, setC7, set3] <;> rfl) rfl ⟨rfl, hb5⟩
/-- A beat: 28 cells. -/
def beatC (n lf : Int) (b : BeatV) : List Value :=
  [.int .i64 1, .int .i64 200, .int .i64 n, .int .i64 lf, .int .i64 b.epoch, .int .i64 b.echo, .int .i64 0, .int .i64 0, .int .i64 0, .int .i64 0, .bool b.synced, .int .i64 0, .int .i64 0, .int .i64 0, .int .i64 0, .int .i64 0, .int .i64 0, .int .i64 0, .int .i64 0, .int .i64 0,
   .string ⟨#[]⟩, .int .i64 0, .int .i64 0, .int .i64 0, .int .i64 0, .slice none 0 0, .slice none 0 0, .int .i64 0]
set_option maxRecDepth 100000 in
set_option maxHeartbeats 4000000 in

theorem beat15_any (n lf : Int) (b : BeatV) (w : World) :
    Calls Tryz.prog 31 #[.agg #[.int .i64 n, .int .i64 lf], .int .i64 b.epoch, .bool b.synced, .int .i64 b.echo] w fun e w' => e = .returned (.agg (beatC n lf b).toArray) ∧ Below w.heap.size w w' := by
  go_enter Tryz.func31, Tryz.ntmps31
  go_upto_region 1 with (fail)
  have hM : BlkAt ((w.alloc (.cells #[.int .i64 n, .int .i64 lf] 42)).alloc (.cells #[.int .i64 0, .int .i64 0, .int .i64 0, .int .i64 0, .int .i64 0, .int .i64 0, .int .i64 0, .int .i64 0, .int .i64 0, .int .i64 0, .bool false, .int .i64 0, .int .i64 0, .int .i64 0, .int .i64 0, .int .i64 0, .int .i64 0, .int .i64 0, .int .i64 0, .int .i64 0, .string ⟨#[]⟩, .int .i64 0, .int .i64 0, .int .i64 0, .int .i64 0, .slice none 0 0, .slice none 0 0, .int .i64 0] 58)) w.heap.size 42 [.int .i64 n, .int .i64 lf] := (BlkAt.new w 42 [.int .i64 n, .int .i64 lf]).alloc _
  have hD : BlkAt ((w.alloc (.cells #[.int .i64 n, .int .i64 lf] 42)).alloc (.cells #[.int .i64 0, .int .i64 0, .int .i64 0, .int .i64 0, .int .i64 0, .int .i64 0, .int .i64 0, .int .i64 0, .int .i64 0, .int .i64 0, .bool false, .int .i64 0, .int .i64 0, .int .i64 0, .int .i64 0, .int .i64 0, .int .i64 0, .int .i64 0, .int .i64 0, .int .i64 0, .string ⟨#[]⟩, .int .i64 0, .int .i64 0, .int .i64 0, .int .i64 0, .slice none 0 0, .slice none 0 0, .int .i64 0] 58)) (w.heap.size + 1) 58 [.int .i64 0, .int .i64 0, .int .i64 0, .int .i64 0, .int .i64 0, .int .i64 0, .int .i64 0, .int .i64 0, .int .i64 0, .int .i64 0, .bool false, .int .i64 0, .int .i64 0, .int .i64 0, .int .i64 0, .int .i64 0, .int .i64 0, .int .i64 0, .int .i64 0, .int .i64 0, .string ⟨#[]⟩, .int .i64 0, .int .i64 0, .int .i64 0, .int .i64 0, .slice none 0 0, .slice none 0 0, .int .i64 0] := BlkAt.newAt (by simp) 58 [.int .i64 0, .int .i64 0, .int .i64 0, .int .i64 0, .int .i64 0, .int .i64 0, .int .i64 0, .int .i64 0, .int .i64 0, .int .i64 0, .bool false, .int .i64 0, .int .i64 0, .int .i64 0, .int .i64 0, .int .i64 0, .int .i64 0, .int .i64 0, .int .i64 0, .int .i64 0, .string ⟨#[]⟩, .int .i64 0, .int .i64 0, .int .i64 0, .int .i64 0, .slice none 0 0, .slice none 0 0, .int .i64 0]
  have hb : Below w.heap.size w ((w.alloc (.cells #[.int .i64 n, .int .i64 lf] 42)).alloc (.cells #[.int .i64 0, .int .i64 0, .int .i64 0, .int .i64 0, .int .i64 0, .int .i64 0, .int .i64 0, .int .i64 0, .int .i64 0, .int .i64 0, .bool false, .int .i64 0, .int .i64 0, .int .i64 0, .int .i64 0, .int .i64 0, .int .i64 0, .int .i64 0, .int .i64 0, .int .i64 0, .string ⟨#[]⟩, .int .i64 0, .int .i64 0, .int .i64 0, .int .i64 0, .slice none 0 0, .slice none 0 0, .int .i64 0] 58)) := ((Below.refl w.heap.size w).alloc (Nat.le_refl _) _).alloc (by simp) _
  have hWs : w.heap.size + 2 ≤ ((w.alloc (.cells #[.int .i64 n, .int .i64 lf] 42)).alloc (.cells #[.int .i64 0, .int .i64 0, .int .i64 0, .int .i64 0, .int .i64 0, .int .i64 0, .int .i64 0, .int .i64 0, .int .i64 0, .int .i64 0, .bool false, .int .i64 0, .int .i64 0, .int .i64 0, .int .i64 0, .int .i64 0, .int .i64 0, .int .i64 0, .int .i64 0, .int .i64 0, .string ⟨#[]⟩, .int .i64 0, .int .i64 0, .int .i64 0, .int .i64 0, .slice none 0 0, .slice none 0 0, .int .i64 0] 58)).heap.size := by simp
  change Code.wp _ _ _ _ ((w.alloc (.cells #[.int .i64 n, .int .i64 lf] 42)).alloc (.cells #[.int .i64 0, .int .i64 0, .int .i64 0, .int .i64 0, .int .i64 0, .int .i64 0, .int .i64 0, .int .i64 0, .int .i64 0, .int .i64 0, .bool false, .int .i64 0, .int .i64 0, .int .i64 0, .int .i64 0, .int .i64 0, .int .i64 0, .int .i64 0, .int .i64 0, .int .i64 0, .string ⟨#[]⟩, .int .i64 0, .int .i64 0, .int .i64 0, .int .i64 0, .slice none 0 0, .slice none 0 0, .int .i64 0] 58))
  generalize (w.alloc (.cells #[.int .i64 n, .int .i64 lf] 42)).alloc (.cells #[.int .i64 0, .int .i64 0, .int .i64 0, .int .i64 0, .int .i64 0, .int .i64 0, .int .i64 0, .int .i64 0, .int .i64 0, .int .i64 0, .bool false, .int .i64 0, .int .i64 0, .int .i64 0, .int .i64 0, .int .i64 0, .int .i64 0, .int .i64 0, .int .i64 0, .int .i64 0, .string ⟨#[]⟩, .int .i64 0, .int .i64 0, .int .i64 0, .int .i64 0, .slice none 0 0, .slice none 0 0, .int .i64 0] 58) = W at *
  have hDn : w.heap.size ≤ w.heap.size + 1 := by omega
  have hDb : w.heap.size + 1 < w.heap.size + 2 := by omega
  have hD0 : w.heap.size + 1 ≠ w.heap.size := by omega
  generalize hDd : w.heap.size + 1 = D at *
  obtain ⟨M, hMM⟩ : ∃ M, M = w.heap.size := ⟨_, rfl⟩
  rw [← hMM] at hM ⊢
  have hDw : w.heap.size ≤ D := by omega
  clear hDd hMM hWs hDn hDb hD0
  have m0 : W.cell? ⟨M, 0, none⟩ = some (.int .i64 n) := hM.cell rfl
  have m1 : W.cell? ⟨M, 1, none⟩ = some (.int .i64 lf) := hM.cell rfl
  obtain ⟨cs, hcs⟩ : ∃ cs, cs = beatC n lf b := ⟨_, rfl⟩
  have hlen : cs.length = 28 := by rw [hcs]; rfl
  have hone : cs.toArray.all (·.oneCell') = true := by rw [hcs]; simp [beatC, Value.oneCell']
  have hl2 : cs.length = ([.int .i64 0, .int .i64 0, .int .i64 0, .int .i64 0, .int .i64 0, .int .i64 0, .int .i64 0, .int .i64 0, .int .i64 0, .int .i64 0, .bool false, .int .i64 0, .int .i64 0, .int .i64 0, .int .i64 0, .int .i64 0, .int .i64 0, .int .i64 0, .int .i64 0, .int .i64 0, .string ⟨#[]⟩, .int .i64 0, .int .i64 0, .int .i64 0, .int .i64 0, .slice none 0 0, .slice none 0 0, .int .i64 0] : List Value).length := by rw [hlen]; rfl
  have HM2 := Lib.hid (hD.stored (vs := cs) hl2)
  have HT2 := Lib.hid (mblk_there2 hD hl2)
  have G := grown_setCells D cs 0 W
  have HB2 := Lib.hid (grown_below hb G hDw)
  have HCS := Lib.hid hcs
  clear hD hM hb G hl2 hcs
  go_wp2_with (refine wpList_store_mid rfl 58 (.tmp 8) (.tmp 13) rfl D 0 cs.toArray rfl (by rw [HCS.out]; rfl) (by exact HT2.out) (by rw [List.size_toArray, hlen]; exact mmsg_info) hone ?_; rw [List.toList_toArray])
  rw [← HCS.out]
  exact bodyPost_ret (v := .agg cs.toArray) (results_cell_row rfl _ _ D 58 cs.toArray (0, 0) _ rfl HM2.out Tryz.underlying58 rfl (by rw [List.size_toArray, hlen]; exact mmsg_info)) rfl ⟨rfl, HB2.out⟩
end Go.Proofs.YtomfmejodmfioaaGreat
