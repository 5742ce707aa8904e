/- The document's First. -/
import Derived.Test.YtofdmdpnobhnlaaCfgFirst
namespace Go.Proofs.Ytofdmdpnobhnlaa
open Go.RowKit Go.ChangeShapes Go.WideShapes Go.Joins
set_option linter.unusedVariables false

set_option maxRecDepth 100000 in
set_option maxHeartbeats 2000000 in
theorem qcfirst_any (N : Nat) (hN : N ≤ 8) (w : World) :
    Calls Try.prog 26 #[.int .i64 N] w fun en w' => ConfOne w w' en ⟨1, firstSeats N⟩ := by
  obtain ⟨i0, hi0, hz0, hz1, hz2⟩ := info_parts seat_full
  go_enter Try.func26, Try.ntmps26
  go_upto_region 2 with (fail)
  have hD : BlkAt ((w.alloc (.cells #[.int .i64 0, .slice none 0 0] 24)).alloc (.cells #[.int .i64 1, .slice none 0 0] 24)) w.heap.size 24 [.int .i64 0, .slice none 0 0] := (BlkAt.new w 24 [.int .i64 0, .slice none 0 0]).alloc _
  have hC : BlkAt ((w.alloc (.cells #[.int .i64 0, .slice none 0 0] 24)).alloc (.cells #[.int .i64 1, .slice none 0 0] 24)) (w.heap.size + 1) 24 [.int .i64 1, .slice none 0 0] := BlkAt.newAt (by simp) 24 [.int .i64 1, .slice none 0 0]
  have hb : Below w.heap.size w ((w.alloc (.cells #[.int .i64 0, .slice none 0 0] 24)).alloc (.cells #[.int .i64 1, .slice none 0 0] 24)) := ((Below.refl w.heap.size w).alloc (Nat.le_refl _) _).alloc (by simp) _
  have hWs : w.heap.size + 2 ≤ ((w.alloc (.cells #[.int .i64 0, .slice none 0 0] 24)).alloc (.cells #[.int .i64 1, .slice none 0 0] 24)).heap.size := by simp
  change Code.wp _ _ _ _ ((w.alloc (.cells #[.int .i64 0, .slice none 0 0] 24)).alloc (.cells #[.int .i64 1, .slice none 0 0] 24))
  generalize (w.alloc (.cells #[.int .i64 0, .slice none 0 0] 24)).alloc (.cells #[.int .i64 1, .slice none 0 0] 24) = W at *
  generalize hCd : w.heap.size + 1 = C at *
  go_wp2_with fail
  go_loopw [4] (fun i wr => ∃ (k : Nat) (v : Value), k ≤ N ∧ i = .int .i64 k ∧ BlkAt wr C 24 [.int .i64 1, v] ∧ BlkAt wr w.heap.size 24 [.int .i64 0, .slice none 0 0] ∧ wr.ownsRow (w.heap.size + 2) 50 3 v k (seatsCells (firstSeats k)) ∧ Below w.heap.size w wr ∧ w.heap.size + 2 ≤ wr.heap.size) (fun i _ => N - (intOf i).toNat)
  case atStart => exact ⟨0, .slice none 0 0, Nat.zero_le _, rfl, hC, hD, World.ownsRow_nil _ _ _ _, hb, hWs⟩
  case round =>
    obtain ⟨k, v, hk, rfl, hC, hD, hown, hb, hsz⟩ := hrel
    clear hWs
    by_cases hlt : k < N
    · have d1 : wr.cell? ⟨C, 1, none⟩ = some v := hC.cell rfl
      go_wp2_with (at_builtin; refine wpList_append_lies _ rfl (.tmp 12) (.tmp 16) 22 rfl (w.heap.size + 2) 50 i0 _ 3 24 Try.underlying22 hi0 hz0 hz1 hz2 rfl (by omega) _ _ _ rfl (hown.alloc _) ⟨wr.heap.size, 0, none⟩ 1 1 (seatCells ⟨k, 1, true⟩) rfl rfl ?c1 ?c2 (by omega) ?c3 ?c4 ?c5 (wr.heap.size + 1) ?c6 ?_)
      case c1 => exact World.news_of_block (heap_alloc_new _ _)
      case c2 => exact seatCells_one
      case c3 => unfold maxLen; omega
      case c4 => omega
      case c5 => simp; omega
      case c6 => simp
      intro g' cap' w' hown' hg' hat' hlt'
      have hne : some C ≠ v.ownBlock := fun e => by have := (hown.lt _ e.symm).1; omega
      have hne2 : some w.heap.size ≠ v.ownBlock := fun e => by have := (hown.lt _ e.symm).1; omega
      have hCl := hC.lt
      have hDl := hD.lt
      have hC2 : BlkAt w' C 24 [.int .i64 1, v] := (hg'.block _ (by simp; omega) hne).trans (hC.alloc (.cells (seatCells ⟨k, 1, true⟩).toArray 50))
      have hD2 : BlkAt w' w.heap.size 24 [.int .i64 0, .slice none 0 0] := (hg'.block _ (by simp; omega) hne2).trans (hD.alloc (.cells (seatCells ⟨k, 1, true⟩).toArray 50))
      have hb2 : Below w.heap.size w w' := (hb.alloc hb.size _).grown hg' (by simp; omega) (fun j hj => by have := (hown.lt j hj).1; omega)
      have hsz2 : w.heap.size + 2 ≤ w'.heap.size := by have := hg'.size; simp at this; omega
      clear hg' hat' hD hC hown d1 hb hsz
      have d1 : w'.cell? ⟨C, 1, none⟩ = some v := hC2.cell rfl
      have hf := hC2.free 1
      go_wp2_with fail
      go_roundw
      case rel => exact ⟨k + 1, _, by omega, by go_num, hC2.set 1 _, hD2.grown (grown_setCell w' C 1 _) (by omega), by rw [firstSeats_snoc, seatsCells_snoc]; exact own_set hown' (by omega), grown_below hb2 (grown_setCell w' C 1 _) (by omega), by simp [World.setCell]; omega⟩
      case measure => simp [intOf]; omega
    · obtain rfl : k = N := by omega
      obtain ⟨A, capv, rfl⟩ := own_form hown
      have k0 : wr.cell? ⟨C, 0, none⟩ = some (.int .i64 1) := hC.cell rfl
      have k1 : wr.cell? ⟨C, 1, none⟩ = some (.slice A k capv) := hC.cell rfl
      have d0 : wr.cell? ⟨w.heap.size, 0, none⟩ = some (.int .i64 0) := hD.cell rfl
      have d1 : wr.cell? ⟨w.heap.size, 1, none⟩ = some (.slice none 0 0) := hD.cell rfl
      have hf := hD.free
      go_wp2_with fail
      obtain ⟨hE, hbE⟩ := fin2 (p := .int .i64 1) (q := .slice A k capv) hD hb (Nat.le_refl _)
      have hoE := own_set (D := w.heap.size) (i := 1) (u := .slice A k capv) (own_set (D := w.heap.size) (i := 0) (u := .int .i64 1) hown (by omega)) (by omega)
      change bodyPost _ _ _ _ _ ((wr.setCell ⟨w.heap.size, 0, none⟩ (.int .i64 1)).setCell ⟨w.heap.size, 1, none⟩ (.slice A k capv))
      generalize (wr.setCell ⟨w.heap.size, 0, none⟩ (.int .i64 1)).setCell ⟨w.heap.size, 1, none⟩ (.slice A k capv) = W9 at *
      clear d0 d1 k0 k1
      have d0 := hE.cell (i := 0) rfl
      have d1 := hE.cell (i := 1) rfl
      exact bodyPost_ret (v := .agg #[.int .i64 1, .slice A k capv]) (by simp [results, Try.results26, go_sem, d0, d1] <;> rfl) rfl ⟨_, rfl, chain_of_own (by rw [firstSeats_len]; exact hoE) (firstSeats_ok k (by omega)), hbE⟩

end Go.Proofs.Ytofdmdpnobhnlaa
