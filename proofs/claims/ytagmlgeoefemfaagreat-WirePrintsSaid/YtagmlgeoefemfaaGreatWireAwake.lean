/- The wire laws' first line: awake answers true, and turns nothing that was there. -/
import Derived.Test.YtagmlgeoefemfaaGreatWirePrintD
namespace Go.Proofs.YtagmlgeoefemfaaGreat
open Go.RowKit Go.ChangeShapes Go.WideShapes Go.Joins Go.Deep Fld
set_option linter.unusedVariables false

def msgWhere : MsgV := { msgZero with kind := 15, dst := 200, fn := 100 }
def msgBad : MsgV := { msgZero with kind := 15, seq := 1 }
theorem w64s {x : Int} (h : x = 0 ∨ x = 1 ∨ x = 15 ∨ x = 100 ∨ x = 200) : W64 x := W64.mk (by omega) (by omega)
theorem msgWhere_ok : MOk msgWhere := MOk.mk' (w64s (by decide)) (w64s (by decide)) (w64s (by decide)) (w64s (by decide)) (w64s (by decide)) (w64s (by decide)) (w64s (by decide)) (w64s (by decide)) (w64s (by decide)) (w64s (by decide)) (w64s (by decide)) (w64s (by decide)) (w64s (by decide)) (w64s (by decide)) (w64s (by decide)) opZero_ok (by intro f hf; cases hf)
theorem msgBad_ok : MOk msgBad := MOk.mk' (w64s (by decide)) (w64s (by decide)) (w64s (by decide)) (w64s (by decide)) (w64s (by decide)) (w64s (by decide)) (w64s (by decide)) (w64s (by decide)) (w64s (by decide)) (w64s (by decide)) (w64s (by decide)) (w64s (by decide)) (w64s (by decide)) (w64s (by decide)) (w64s (by decide)) opZero_ok (by intro f hf; cases hf)
theorem msgWhere_may : mayW msgWhere = true := by decide
theorem msgBad_may : mayW msgBad = false := by decide
def whereText : List UInt8 := [15, 144, 3, 200, 1, 0]
theorem msgWhere_text : textOf msgWhere = whereText := by decide
theorem msgWhere_print : printM msgWhere = (frame whereText, 0) := by
  rw [printM, if_pos msgWhere_may, msgWhere_text, if_neg (by rw [frame_len]; decide)]
theorem msgBad_print : printM msgBad = ([], 1) := by rw [printM, if_neg (by rw [msgBad_may]; simp)]
theorem msgWhere_read : readM (frame whereText) = (msgWhere, 0) := by
  rw [← msgWhere_text, readM, if_neg (by rw [frame_len, msgWhere_text]; decide), msg_print msgWhere_ok msgWhere_may]
  rfl
theorem empty_read : readM [] = (msgZero, 3) := by
  have h : rawM [] = (msgZero, false) := by rw [rawM, if_neg (by decide)]
  rw [readM, if_neg (by decide), h]
  rfl

/-- A message's value, its cells by one name. -/
theorem From.parts {M : MsgV} {n : Nat} {w : World} {v : Value} (h : M.From n w v) (ho : M.op.v.length = 8) : ∃ ds : List Value, v = .agg ds.toArray ∧ ds.length = 28 ∧ ds.toArray.all (·.oneCell') = true ∧ M.From n w (.agg ds.toArray) := by
  obtain ⟨v1, v2, rfl, hc, hf⟩ := h
  refine ⟨msgCells M v1 v2, rfl, msgCells_len ho _ _, ?_, ⟨v1, v2, rfl, hc, hf⟩⟩
  rw [Array.all_eq_true_iff_forall_mem]
  intro u hu
  exact msgCells_one (chain_one hc.1) (fires_one hf.1) u (by simpa using hu)
theorem At.parts {M : MsgV} {w : World} {v : Value} (h : M.At w v) (ho : M.op.v.length = 8) : ∃ ds : List Value, v = .agg ds.toArray ∧ ds.length = 28 ∧ ds.toArray.all (·.oneCell') = true ∧ M.At w (.agg ds.toArray) := by
  obtain ⟨v1, v2, rfl, hc, hf⟩ := h
  refine ⟨msgCells M v1 v2, rfl, msgCells_len ho _ _, ?_, ⟨v1, v2, rfl, hc, hf⟩⟩
  rw [Array.all_eq_true_iff_forall_mem]
  intro u hu
  exact msgCells_one (chain_one hc) (fires_one hf) u (by simpa using hu)
theorem At.lit (M : MsgV) (h1 : M.cf.chain = []) (h2 : M.fires = []) (w : World) : M.At w (.agg (msgCells M (.slice none 0 0) (.slice none 0 0)).toArray) := ⟨_, _, rfl, by rw [h1]; exact ChainAt.nil _, by rw [h2]; exact FiresAt.nil _⟩

set_option maxRecDepth 100000 in
set_option maxHeartbeats 2000000 in

theorem awake_any (w : World) : Calls Tryz.prog 5 #[] w fun e w' => e = .returned (.bool true) ∧ Below w.heap.size w w' := by
  have hA := At.lit msgWhere rfl rfl w
  have hlen : (msgCells msgWhere (.slice none 0 0) (.slice none 0 0)).length = 28 := rfl
  have hone : (msgCells msgWhere (.slice none 0 0) (.slice none 0 0)).toArray.all (·.oneCell') = true := by simp [msgCells, msgWhere, msgZero, opCells, opZero, icells, Value.oneCell']
  have hb := Below.refl w.heap.size w
  go_enter Tryz.func5, Tryz.ntmps5
  have hX := BlkAt.new w 34 [.int .i64 0, .int .i64 0, .int .i64 0, .int .i64 0, .int .i64 0, .int .i64 0, .int .i64 0, .int .i64 0, .int .i64 0, .int .i64 0, .bool false, .int .i64 0, .int .i64 0, .int .i64 0, .int .i64 0, .int .i64 0, .int .i64 0, .int .i64 0, .int .i64 0, .int .i64 0, .string ⟨#[]⟩, .int .i64 0, .int .i64 0, .int .i64 0, .int .i64 0, .slice none 0 0, .slice none 0 0, .int .i64 0]
  have HL1 := Lib.hid (show (msgCells msgWhere (.slice none 0 0) (.slice none 0 0)).length = ([.int .i64 0, .int .i64 0, .int .i64 0, .int .i64 0, .int .i64 0, .int .i64 0, .int .i64 0, .int .i64 0, .int .i64 0, .int .i64 0, .bool false, .int .i64 0, .int .i64 0, .int .i64 0, .int .i64 0, .int .i64 0, .int .i64 0, .int .i64 0, .int .i64 0, .int .i64 0, .string ⟨#[]⟩, .int .i64 0, .int .i64 0, .int .i64 0, .int .i64 0, .slice none 0 0, .slice none 0 0, .int .i64 0] : List Value).length by rw [hlen]; rfl)
  have b4 := (Below.refl w.heap.size w).alloc (Nat.le_refl _) (.cells #[.int .i64 0, .int .i64 0, .int .i64 0, .int .i64 0, .int .i64 0, .int .i64 0, .int .i64 0, .int .i64 0, .int .i64 0, .int .i64 0, .bool false, .int .i64 0, .int .i64 0, .int .i64 0, .int .i64 0, .int .i64 0, .int .i64 0, .int .i64 0, .int .i64 0, .int .i64 0, .string ⟨#[]⟩, .int .i64 0, .int .i64 0, .int .i64 0, .int .i64 0, .slice none 0 0, .slice none 0 0, .int .i64 0] 34)
  have G4 := grown_setCells w.heap.size (msgCells msgWhere (.slice none 0 0) (.slice none 0 0)) 0 (w.alloc (.cells #[.int .i64 0, .int .i64 0, .int .i64 0, .int .i64 0, .int .i64 0, .int .i64 0, .int .i64 0, .int .i64 0, .int .i64 0, .int .i64 0, .bool false, .int .i64 0, .int .i64 0, .int .i64 0, .int .i64 0, .int .i64 0, .int .i64 0, .int .i64 0, .int .i64 0, .int .i64 0, .string ⟨#[]⟩, .int .i64 0, .int .i64 0, .int .i64 0, .int .i64 0, .slice none 0 0, .slice none 0 0, .int .i64 0] 34))
  have b5 := b4.grown G4 b4.size (by intro j hj; cases hj; exact Nat.le_refl _)
  have hMn := hX.stored (vs := (msgCells msgWhere (.slice none 0 0) (.slice none 0 0))) HL1.out
  have HT := Lib.hid (blk_there2 hX HL1.out)
  have hAn := hA.below b5
  clear hA
  have hA := hAn
  clear hAn
  have hbn := below_step hb b5
  clear hb
  have hb := hbn
  clear hbn
  clear hX b4 G4 b5 HL1
  go_upto_region 2 with (first | (refine wpList_store_mid rfl 34 (.tmp 1) (.tmp 11) rfl w.heap.size 0 (msgCells msgWhere (.slice none 0 0) (.slice none 0 0)).toArray rfl rfl (by exact HT.out) (by rw [List.size_toArray, hlen]; exact msg_info) hone ?_; rw [List.toList_toArray]))
  change Code.wp _ _ _ _ ((w.alloc (.cells #[.int .i64 0, .int .i64 0, .int .i64 0, .int .i64 0, .int .i64 0, .int .i64 0, .int .i64 0, .int .i64 0, .int .i64 0, .int .i64 0, .bool false, .int .i64 0, .int .i64 0, .int .i64 0, .int .i64 0, .int .i64 0, .int .i64 0, .int .i64 0, .int .i64 0, .int .i64 0, .string ⟨#[]⟩, .int .i64 0, .int .i64 0, .int .i64 0, .int .i64 0, .slice none 0 0, .slice none 0 0, .int .i64 0] 34)).setCells w.heap.size 0 (msgCells msgWhere (.slice none 0 0) (.slice none 0 0)))
  generalize (w.alloc (.cells #[.int .i64 0, .int .i64 0, .int .i64 0, .int .i64 0, .int .i64 0, .int .i64 0, .int .i64 0, .int .i64 0, .int .i64 0, .int .i64 0, .bool false, .int .i64 0, .int .i64 0, .int .i64 0, .int .i64 0, .int .i64 0, .int .i64 0, .int .i64 0, .int .i64 0, .int .i64 0, .string ⟨#[]⟩, .int .i64 0, .int .i64 0, .int .i64 0, .int .i64 0, .slice none 0 0, .slice none 0 0, .int .i64 0] 34)).setCells w.heap.size 0 (msgCells msgWhere (.slice none 0 0) (.slice none 0 0)) = W at *
  have hM := hMn
  clear hMn HT
  obtain ⟨m, hLL⟩ : ∃ q, q = w.heap.size := ⟨_, rfl⟩
  rw [← hLL] at hM ⊢
  have HEm := Lib.hid hLL
  clear hLL
  generalize msgCells msgWhere (.slice none 0 0) (.slice none 0 0) = ds at *
  go_wp2_with (refine wpList_load_mid rfl 34 (.tmp 1) rfl m 0 rfl ds _ hM.range Tryz.underlying34 rfl (by rw [hlen]; exact msg_info) ?_; simp only [Act.put, List.setIfInBounds_toArray, List.set_cons_zero, List.set_cons_succ])
  refine (wprint_any (by exact hA) msgWhere_ok (by decide) (by decide) msgWhere_print).mono ?_
  rintro en w2 ⟨rfl, b2⟩
  have hM2 := hM.below b2
  have hA2 := hA.below b2
  have hb2 := below_step hb b2
  clear hM hA hb b2
  go_wp2_with fail
  refine (wread_any msgWhere_read).mono ?_
  rintro en w3 ⟨v, rfl, hF, b3⟩
  have hM3 := hM2.below b3
  have hA3 := hA2.below b3
  have hb3 := below_step hb2 b3
  clear hM2 hA2 hb2 b3
  obtain ⟨es, rfl, hlen2, hone2, hF2⟩ := From.parts hF rfl
  have hR3 := hF2.at
  clear hF hF2
  have hX := BlkAt.new w3 34 [.int .i64 0, .int .i64 0, .int .i64 0, .int .i64 0, .int .i64 0, .int .i64 0, .int .i64 0, .int .i64 0, .int .i64 0, .int .i64 0, .bool false, .int .i64 0, .int .i64 0, .int .i64 0, .int .i64 0, .int .i64 0, .int .i64 0, .int .i64 0, .int .i64 0, .int .i64 0, .string ⟨#[]⟩, .int .i64 0, .int .i64 0, .int .i64 0, .int .i64 0, .slice none 0 0, .slice none 0 0, .int .i64 0]
  have HL1 := Lib.hid (show es.length = ([.int .i64 0, .int .i64 0, .int .i64 0, .int .i64 0, .int .i64 0, .int .i64 0, .int .i64 0, .int .i64 0, .int .i64 0, .int .i64 0, .bool false, .int .i64 0, .int .i64 0, .int .i64 0, .int .i64 0, .int .i64 0, .int .i64 0, .int .i64 0, .int .i64 0, .int .i64 0, .string ⟨#[]⟩, .int .i64 0, .int .i64 0, .int .i64 0, .int .i64 0, .slice none 0 0, .slice none 0 0, .int .i64 0] : List Value).length by rw [hlen2]; rfl)
  have b4 := (Below.refl w3.heap.size w3).alloc (Nat.le_refl _) (.cells #[.int .i64 0, .int .i64 0, .int .i64 0, .int .i64 0, .int .i64 0, .int .i64 0, .int .i64 0, .int .i64 0, .int .i64 0, .int .i64 0, .bool false, .int .i64 0, .int .i64 0, .int .i64 0, .int .i64 0, .int .i64 0, .int .i64 0, .int .i64 0, .int .i64 0, .int .i64 0, .string ⟨#[]⟩, .int .i64 0, .int .i64 0, .int .i64 0, .int .i64 0, .slice none 0 0, .slice none 0 0, .int .i64 0] 34)
  have G4 := grown_setCells w3.heap.size es 0 (w3.alloc (.cells #[.int .i64 0, .int .i64 0, .int .i64 0, .int .i64 0, .int .i64 0, .int .i64 0, .int .i64 0, .int .i64 0, .int .i64 0, .int .i64 0, .bool false, .int .i64 0, .int .i64 0, .int .i64 0, .int .i64 0, .int .i64 0, .int .i64 0, .int .i64 0, .int .i64 0, .int .i64 0, .string ⟨#[]⟩, .int .i64 0, .int .i64 0, .int .i64 0, .int .i64 0, .slice none 0 0, .slice none 0 0, .int .i64 0] 34))
  have b5 := b4.grown G4 b4.size (by intro j hj; cases hj; exact Nat.le_refl _)
  have hX4n := hX.stored (vs := es) HL1.out
  have HT := Lib.hid (blk_there2 hX HL1.out)
  have hM3n := hM3.below b5
  clear hM3
  have hM3 := hM3n
  clear hM3n
  have hA3n := hA3.below b5
  clear hA3
  have hA3 := hA3n
  clear hA3n
  have hR3n := hR3.below b5
  clear hR3
  have hR3 := hR3n
  clear hR3n
  have hb3n := below_step hb3 b5
  clear hb3
  have hb3 := hb3n
  clear hb3n
  clear hX b4 G4 b5 HL1
  go_upto_region 4 with (first | (refine wpList_store_mid rfl 34 (.tmp 4) (.tmp 20) rfl w3.heap.size 0 es.toArray rfl rfl (by exact HT.out) (by rw [List.size_toArray, hlen2]; exact msg_info) hone2 ?_; rw [List.toList_toArray]))
  change Code.wp _ _ _ _ ((w3.alloc (.cells #[.int .i64 0, .int .i64 0, .int .i64 0, .int .i64 0, .int .i64 0, .int .i64 0, .int .i64 0, .int .i64 0, .int .i64 0, .int .i64 0, .bool false, .int .i64 0, .int .i64 0, .int .i64 0, .int .i64 0, .int .i64 0, .int .i64 0, .int .i64 0, .int .i64 0, .int .i64 0, .string ⟨#[]⟩, .int .i64 0, .int .i64 0, .int .i64 0, .int .i64 0, .slice none 0 0, .slice none 0 0, .int .i64 0] 34)).setCells w3.heap.size 0 es)
  generalize (w3.alloc (.cells #[.int .i64 0, .int .i64 0, .int .i64 0, .int .i64 0, .int .i64 0, .int .i64 0, .int .i64 0, .int .i64 0, .int .i64 0, .int .i64 0, .bool false, .int .i64 0, .int .i64 0, .int .i64 0, .int .i64 0, .int .i64 0, .int .i64 0, .int .i64 0, .int .i64 0, .int .i64 0, .string ⟨#[]⟩, .int .i64 0, .int .i64 0, .int .i64 0, .int .i64 0, .slice none 0 0, .slice none 0 0, .int .i64 0] 34)).setCells w3.heap.size 0 es = W4 at *
  have hX4 := hX4n
  clear hX4n HT
  obtain ⟨x, hLL⟩ : ∃ q, q = w3.heap.size := ⟨_, rfl⟩
  rw [← hLL] at hX4 ⊢
  have HEx := Lib.hid hLL
  clear hLL
  go_wp2_with fail
  refine (wprint_any (v := .agg (msgCells msgBad (.slice none 0 0) (.slice none 0 0)).toArray) (by exact At.lit msgBad rfl rfl _) msgBad_ok (by decide) (by decide) msgBad_print).mono ?_
  rintro en w5 ⟨rfl, b5⟩
  have hM5 := hM3.below b5
  have hA5 := hA3.below b5
  have hR5 := hR3.below b5
  have hX5 := hX4.below b5
  have hb5 := below_step hb3 b5
  clear hM3 hA3 hR3 hX4 hb3 b5
  go_wp2_with fail
  refine (wread_any (s := []) empty_read).mono ?_
  rintro en w6 ⟨v, rfl, hF, b6⟩
  have hM6 := hM5.below b6
  have hA6 := hA5.below b6
  have hR6 := hR5.below b6
  have hX6 := hX5.below b6
  have hb6 := below_step hb5 b6
  clear hM5 hA5 hR5 hX5 hb5 b6
  obtain ⟨zs, rfl, hlen3, hone3, hF3⟩ := From.parts hF rfl
  clear hF hF3
  have hX := BlkAt.new w6 34 [.int .i64 0, .int .i64 0, .int .i64 0, .int .i64 0, .int .i64 0, .int .i64 0, .int .i64 0, .int .i64 0, .int .i64 0, .int .i64 0, .bool false, .int .i64 0, .int .i64 0, .int .i64 0, .int .i64 0, .int .i64 0, .int .i64 0, .int .i64 0, .int .i64 0, .int .i64 0, .string ⟨#[]⟩, .int .i64 0, .int .i64 0, .int .i64 0, .int .i64 0, .slice none 0 0, .slice none 0 0, .int .i64 0]
  have HL1 := Lib.hid (show zs.length = ([.int .i64 0, .int .i64 0, .int .i64 0, .int .i64 0, .int .i64 0, .int .i64 0, .int .i64 0, .int .i64 0, .int .i64 0, .int .i64 0, .bool false, .int .i64 0, .int .i64 0, .int .i64 0, .int .i64 0, .int .i64 0, .int .i64 0, .int .i64 0, .int .i64 0, .int .i64 0, .string ⟨#[]⟩, .int .i64 0, .int .i64 0, .int .i64 0, .int .i64 0, .slice none 0 0, .slice none 0 0, .int .i64 0] : List Value).length by rw [hlen3]; rfl)
  have b4 := (Below.refl w6.heap.size w6).alloc (Nat.le_refl _) (.cells #[.int .i64 0, .int .i64 0, .int .i64 0, .int .i64 0, .int .i64 0, .int .i64 0, .int .i64 0, .int .i64 0, .int .i64 0, .int .i64 0, .bool false, .int .i64 0, .int .i64 0, .int .i64 0, .int .i64 0, .int .i64 0, .int .i64 0, .int .i64 0, .int .i64 0, .int .i64 0, .string ⟨#[]⟩, .int .i64 0, .int .i64 0, .int .i64 0, .int .i64 0, .slice none 0 0, .slice none 0 0, .int .i64 0] 34)
  have G4 := grown_setCells w6.heap.size zs 0 (w6.alloc (.cells #[.int .i64 0, .int .i64 0, .int .i64 0, .int .i64 0, .int .i64 0, .int .i64 0, .int .i64 0, .int .i64 0, .int .i64 0, .int .i64 0, .bool false, .int .i64 0, .int .i64 0, .int .i64 0, .int .i64 0, .int .i64 0, .int .i64 0, .int .i64 0, .int .i64 0, .int .i64 0, .string ⟨#[]⟩, .int .i64 0, .int .i64 0, .int .i64 0, .int .i64 0, .slice none 0 0, .slice none 0 0, .int .i64 0] 34))
  have b5 := b4.grown G4 b4.size (by intro j hj; cases hj; exact Nat.le_refl _)
  have hY7n := hX.stored (vs := zs) HL1.out
  have HT := Lib.hid (blk_there2 hX HL1.out)
  have hM6n := hM6.below b5
  clear hM6
  have hM6 := hM6n
  clear hM6n
  have hA6n := hA6.below b5
  clear hA6
  have hA6 := hA6n
  clear hA6n
  have hR6n := hR6.below b5
  clear hR6
  have hR6 := hR6n
  clear hR6n
  have hX6n := hX6.below b5
  clear hX6
  have hX6 := hX6n
  clear hX6n
  have hb6n := below_step hb6 b5
  clear hb6
  have hb6 := hb6n
  clear hb6n
  clear hX b4 G4 b5 HL1
  go_upto_region 6 with (first | (refine wpList_store_mid rfl 34 (.tmp 8) (.tmp 29) rfl w6.heap.size 0 zs.toArray rfl rfl (by exact HT.out) (by rw [List.size_toArray, hlen3]; exact msg_info) hone3 ?_; rw [List.toList_toArray]))
  change Code.wp _ _ _ _ ((w6.alloc (.cells #[.int .i64 0, .int .i64 0, .int .i64 0, .int .i64 0, .int .i64 0, .int .i64 0, .int .i64 0, .int .i64 0, .int .i64 0, .int .i64 0, .bool false, .int .i64 0, .int .i64 0, .int .i64 0, .int .i64 0, .int .i64 0, .int .i64 0, .int .i64 0, .int .i64 0, .int .i64 0, .string ⟨#[]⟩, .int .i64 0, .int .i64 0, .int .i64 0, .int .i64 0, .slice none 0 0, .slice none 0 0, .int .i64 0] 34)).setCells w6.heap.size 0 zs)
  generalize (w6.alloc (.cells #[.int .i64 0, .int .i64 0, .int .i64 0, .int .i64 0, .int .i64 0, .int .i64 0, .int .i64 0, .int .i64 0, .int .i64 0, .int .i64 0, .bool false, .int .i64 0, .int .i64 0, .int .i64 0, .int .i64 0, .int .i64 0, .int .i64 0, .int .i64 0, .int .i64 0, .int .i64 0, .string ⟨#[]⟩, .int .i64 0, .int .i64 0, .int .i64 0, .int .i64 0, .slice none 0 0, .slice none 0 0, .int .i64 0] 34)).setCells w6.heap.size 0 zs = W7 at *
  have hY7 := hY7n
  clear hY7n HT
  obtain ⟨y, hLL⟩ : ∃ q, q = w6.heap.size := ⟨_, rfl⟩
  rw [← hLL] at hY7 ⊢
  have HEy := Lib.hid hLL
  clear hLL
  clear hY7
  go_wp2_with fail
  refine (qframe_any whereText (by decide) _).mono ?_
  rintro en w8 ⟨rfl, b8⟩
  have hM8 := hM6.below b8
  have hA8 := hA6.below b8
  have hR8 := hR6.below b8
  have hX8 := hX6.below b8
  have hb8 := below_step hb6 b8
  clear hM6 hA6 hR6 hX6 hb6 b8
  go_wp2_with (first | (refine wpList_load_want (by rfl) 34 (.tmp 4) rfl x 0 rfl es _ hX8.range Tryz.underlying34 rfl (by rw [hlen2]; exact msg_info) ?_; simp only [Act.put, List.setIfInBounds_toArray, List.set_cons_zero, List.set_cons_succ]) | (refine wpList_load_want (by rfl) 34 (.tmp 1) rfl m 0 rfl ds _ hM8.range Tryz.underlying34 rfl (by rw [hlen]; exact msg_info) ?_; simp only [Act.put, List.setIfInBounds_toArray, List.set_cons_zero, List.set_cons_succ]))
  refine (wsame_any (by exact hR8) (by exact hA8) rfl rfl).mono ?_
  rintro en w9 ⟨rfl, b9⟩
  rw [decide_eq_true (rfl : msgWhere = msgWhere)]
  have hb9 := below_step hb8 b9
  clear hM8 hA8 hR8 hX8 hb8 b9
  go_wp2_with fail
  go_ret
  exact ⟨rfl, hb9⟩
end Go.Proofs.YtagmlgeoefemfaaGreat
