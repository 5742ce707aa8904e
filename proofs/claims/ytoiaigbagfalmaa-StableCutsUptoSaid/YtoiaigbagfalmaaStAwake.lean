/- The law's first line: answers that the document fixes. -/
import Derived.Test.YtoiaigbagfalmaaStCalls
namespace Go.Proofs.Ytoiaigbagfalmaa
open Go.RowKit Go.ChangeShapes Go.WideShapes Go.Joins Go.Deep
set_option linter.unusedVariables false

theorem writeS_all {l s : List UInt8} {keep : Int} (hs : s.length ≤ 1024) (hr : l.length + (bytesS s).length ≤ 65536) (hk : ((bytesS s).length : Int) ≤ keep) : writeS l false s keep = (l ++ bytesS s, 0) := by
  rw [writeS, if_neg (by omega), if_neg (by simp), if_neg (by omega)]
  have : keepS s keep = (bytesS s).length := by unfold keepS; omega
  rw [this, List.take_length]
theorem writeS_part {l s : List UInt8} {keep : Nat} (hs : s.length ≤ 1024) (hr : l.length + (bytesS s).length ≤ 65536) (hk : keep ≤ (bytesS s).length) : writeS l false s keep = (l ++ (bytesS s).take keep, 0) := by
  rw [writeS, if_neg (by omega), if_neg (by simp), if_neg (by omega)]
  have : keepS s keep = keep := by unfold keepS; omega
  rw [this]
theorem writeS_torn {l s : List UInt8} {keep : Int} (hs : s.length ≤ 1024) : writeS l true s keep = (l, 13) := by
  rw [writeS, if_neg (by omega), if_pos rfl]
theorem len_a : (bytesS [97]).length = 6 := by rw [bytesS_len]; rfl
theorem len_bc : (bytesS [98, 99]).length = 7 := by rw [bytesS_len]; rfl
theorem recs_one (t : List UInt8) : recs [t] = bytesS t := by simp [recs]
theorem aw1 : writeS [] false [97] 1099511627776 = (recs [[97]], 0) := by
  rw [writeS_all (by simp) (by rw [len_a]; simp) (by rw [len_a]; decide), List.nil_append, recs_one]
theorem aw2 : writeS (recs [[97]]) false [98, 99] 3 = (recs [[97]] ++ (bytesS [98, 99]).take 3, 0) :=
  writeS_part (keep := 3) (by simp) (by rw [recs_one, len_a, len_bc]; decide) (by rw [len_bc]; decide)
theorem aw4 : scanS (recs [[97]] ++ (bytesS [98, 99]).take 3) = ([[97]], (recs [[97]]).length) :=
  scan_recs _ _ (by simp) (one_cut _ (by simp) (by rw [len_bc]; decide))
theorem aw6 : writeS (recs [[97]]) false [98, 99] 99 = (recs [[97], [98, 99]], 0) := by
  rw [writeS_all (by simp) (by rw [recs_one, len_a, len_bc]; decide) (by rw [len_bc]; decide)]
  rfl
theorem aw7 : scanS (recs [[97], [98, 99]]) = ([[97], [98, 99]], (recs [[97], [98, 99]]).length) := scan_all _ (by simp)
theorem aw8 : (⟨(bytesS [97]).toArray⟩ : ByteArray).extract 0 2 = ⟨[1, 97].toArray⟩ := by
  rw [take_eq]
  have : (bytesS [97]).take 2 = [1, 97] := by rw [bytesS, frame, List.take_left' (by rfl)]; rfl
  rw [this]

set_option maxRecDepth 100000 in
set_option maxHeartbeats 2000000 in

theorem awake_any (w : World) : Calls Try.prog 8 #[] w fun e w' => e = .returned (.bool true) ∧ Below w.heap.size w w' := by
  go_enter Try.func8, Try.ntmps8
  go_wp2_with fail
  refine (new_log _).mono ?_
  rintro e w1 ⟨b, rfl, hL, hb⟩
  have hbn := hL.1
  go_wp2_with fail
  refine (append_any (s := [97]) hL (by simp) (by simp [maxLen]) hb.size).mono ?_
  rintro e w2 ⟨rfl, ⟨v2, hL2⟩, hk⟩
  rw [aw1] at hL2 ⊢
  have hb := hk.below hb hbn hL.row
  clear hk hL
  simp only at hL2
  go_wp2_with fail
  refine (crash_any (s := [98, 99]) hL2 (by rw [recs_one, len_a]; decide) (by simp [maxLen]) hb.size 3).mono ?_
  rintro e w3 ⟨rfl, ⟨v3, hL3⟩, hk⟩
  rw [tornS, aw2] at hL3
  rw [aw2]
  simp only [if_true] at hL3
  have hb := hk.below hb hbn hL2.row
  clear hk hL2
  go_wp2_with fail
  refine (append_any (s := [100]) hL3 (by rw [recs_one, List.length_append, List.length_take, len_a, len_bc]; decide) (by simp [maxLen]) hb.size).mono ?_
  rintro e w4 ⟨rfl, ⟨v4, hL4⟩, hk⟩
  rw [writeS_torn (by simp)] at hL4 ⊢
  simp only at hL4
  have hb := hk.below hb hbn hL3.row
  clear hk hL3
  go_wp2_with fail
  refine (recover_any hL4 (by rw [recs_one, List.length_append, List.length_take, len_a, len_bc]; decide)).mono ?_
  rintro e w5 ⟨ax, cx, rfl, hx, ⟨v5, hL5⟩, hk⟩
  rw [aw4] at hx hL5 ⊢
  simp only [List.take_left' rfl] at hx hL5 ⊢
  have hb := hk.below hb hbn (by intro j hj; cases hj)
  clear hk hL4
  go_wp2_with fail
  refine (crash_any (s := [98, 99]) hL5 (by rw [recs_one, len_a]; decide) (by simp [maxLen]) hb.size 99).mono ?_
  rintro e w6 ⟨rfl, ⟨v6, hL6⟩, hk⟩
  rw [tornS, aw6] at hL6
  rw [aw6]
  simp only [if_true] at hL6
  have hb := hk.below hb hbn hL5.row
  have hx := hx.kept hL5 hk (.inr rfl)
  clear hk hL5
  go_wp2_with fail
  have h13 : (recs [[97], [98, 99]]).length = 13 := by
    have : recs [[97], [98, 99]] = bytesS [97] ++ bytesS [98, 99] := by simp [recs]
    rw [this, List.length_append, len_a, len_bc]
  refine (recover_any hL6 (by rw [h13]; decide)).mono ?_
  rintro e w7 ⟨ay, cy, rfl, hy, ⟨v7, hL7⟩, hk⟩
  rw [aw7] at hy hL7 ⊢
  have hb := hk.below hb hbn (by intro j hj; cases hj)
  have hx := hx.kept hL6 hk (.inl rfl)
  have hxv := hx.v
  have hyv := hy.v
  clear hk hL6 hL7 hx hy
  simp only at hyv ⊢
  change StrsV w7 (.slice ax 1 cx) [[97]] at hxv
  change StrsV w7 (.slice ay 2 cy) [[97], [98, 99]] at hyv
  go_wp2_with fail
  refine (same_any (by exact hxv.alloc _) (by exact strs_new _ [97])).mono ?_
  rintro e w8 ⟨rfl, b8⟩
  have hyv := (hyv.alloc _).below b8
  have hb := below_step (hb.alloc hb.size _) b8
  clear b8 hxv
  rw [show decide (([[97]] : List (List UInt8)) = [[97]]) = true by simp]
  go_wp2_with fail
  refine (same_any (by exact hyv.alloc _) (by exact strs_new2 _ [97] [98, 99])).mono ?_
  rintro e w9 ⟨rfl, b9⟩
  have hb := below_step (hb.alloc hb.size _) b9
  clear b9 hyv
  rw [show decide (([[97], [98, 99]] : List (List UInt8)) = [[97], [98, 99]]) = true by simp]
  have hx8 := aw8
  have hl6 := len_a
  go_wp2_with fail
  refine (bytes_any [97] (by simp) _).mono ?_
  rintro e w10 ⟨rfl, b10⟩
  have hb := below_step hb b10
  clear b10
  go_wp2_with fail
  refine (bytes_any [97] (by simp) _).mono ?_
  rintro e w11 ⟨rfl, b11⟩
  have hb := below_step hb b11
  go_wp2_with fail
  go_ret
  exact ⟨rfl, hb⟩
end Go.Proofs.Ytoiaigbagfalmaa
