/- The contracts of texts with their sums. -/
import Derived.Test.YtoiaigbagfalmaaCrcSum
namespace Go.Proofs.Ytoiaigbagfalmaa
open Go.RowKit Go.ChangeShapes Go.WideShapes Go.Joins
set_option linter.unusedVariables false

/-- The four bytes as far as they are laid. -/
def fourTo (n k : Nat) : List UInt8 := (four n).take k ++ List.replicate (4 - k) 0
theorem fourTo_len (n k : Nat) (hk : k ≤ 4) : (fourTo n k).length = 4 := by
  simp [fourTo, four]
  omega
theorem four_byte (n k : Nat) (hn : F32 n) (hk : k < 4) : (four n)[k]? = some (UInt8.ofNat (n / 2 ^ (24 - 8 * k) % 256)) := by
  unfold F32 at hn
  have h : k = 0 ∨ k = 1 ∨ k = 2 ∨ k = 3 := by omega
  rcases h with rfl | rfl | rfl | rfl
  · simp only [four, List.getElem?_cons_zero, show 2 ^ (24 - 8 * 0) = 16777216 from rfl]
    rw [Nat.mod_eq_of_lt (by omega)]
  · rfl
  · rfl
  · simp [four]
theorem fourTo_set (n k : Nat) (hn : F32 n) (hk : k < 4) : (fourTo n k).set k (UInt8.ofNat (n / 2 ^ (24 - 8 * k) % 256)) = fourTo n (k + 1) := by
  have hb := four_byte n k hn hk
  obtain ⟨h1, h2⟩ := List.getElem?_eq_some_iff.1 hb
  rw [← h2]
  have h : k = 0 ∨ k = 1 ∨ k = 2 ∨ k = 3 := by omega
  rcases h with rfl | rfl | rfl | rfl <;> rfl

theorem arr4_len : Try.prog.arrayLen 70 = 4 := by kernel_rfl
theorem arr4_elem : Try.prog.elem 70 = 5 := by kernel_rfl
theorem arr4_under : Try.prog.underlying 70 = some (.array (Try.prog.arrayLen 70) (Try.prog.elem 70)) := by kernel_rfl
set_option maxRecDepth 100000 in
theorem slice4 (B : Nat) (W : World) : (Instr.sliceAt 70 (.pointer (some ⟨B, 0, none⟩)) none none none).run Try.prog W = .ok (.slice (some ⟨B, 0, none⟩) 4 4) W := by
  rw [run_sliceAt_array_all W 70 _ arr4_under, arr4_len]
  rfl

set_option maxRecDepth 100000 in
set_option maxHeartbeats 1000000 in
theorem frame_any (l : List UInt8) (hl : l.length ≤ 1000000) (w : World) :
    Calls Try.prog 26 #[.string ⟨l.toArray⟩] w fun e w' => e = .returned (.tuple #[.string ⟨(frame l).toArray⟩, .int .u32 (crcOf l)]) ∧ Below w.heap.size w w' := by
  go_enter Try.func26, Try.ntmps26
  go_wp2_with fail
  refine (new_any _).mono ?_
  rintro e w1 ⟨rfl, hT, hb1⟩
  go_wp2_with fail
  refine (sum_any (.inl ⟨rfl, _, hT⟩) l hl).mono ?_
  rintro e w2 ⟨rfl, hT2, hg2⟩
  have hb2 := grown_below hb1 hg2 (Nat.le_refl _)
  have HN := Lib.hid (show ∃ n, n = crcOf l ∧ F32 n from ⟨_, rfl, crcOf_fit l⟩)
  obtain ⟨n, hn, hf⟩ := HN.out
  rw [← hn]
  have Hn := Lib.hid hn
  have HF := Lib.hid hf
  clear hT hg2 hT2 hb1 hn hf HN
  go_wp2_with fail
  have hz := hb2.size
  go_loopw [10] (fun i wr => ∃ k : Nat, k ≤ 4 ∧ i = .int .i64 k ∧ wr.heap[w2.heap.size]? = some (.cells (bcells (fourTo n k)).toArray 70 (0, 0)) ∧ Below w.heap.size w wr) (fun i _ => 4 - (intOf i).toNat)
  case atStart => exact ⟨0, by omega, rfl, heap_alloc_new _ _, hb2.alloc hz _⟩
  case round =>
    obtain ⟨k, hk, rfl, hB, hb⟩ := hrel
    have HB := Lib.hid hB
    have hf : wr.frozen? ⟨w2.heap.size, k, none⟩ = false := by simp [World.frozen?, hB]
    by_cases hlt : k < 4
    · have hc : wr.cell? ⟨w2.heap.size, k, none⟩ = some (.int .u8 (((fourTo n k).getD k 0).toNat : Int)) := by
        rw [cell_of_row _ _ _ _ _ _ hB]
        have := fourTo_len n k hk
        simp [bcells, List.getD, List.getElem?_eq_getElem (show k < (fourTo n k).length by omega)]
      clear hB
      have hs0 : (0 : Int) ≤ 24 - 8 * k := by omega
      go_wp2_with fail
      refine ⟨⟨k + 1, by omega, by go_num, ?_, hb.setCell hz _⟩, by simp [intOf]; omega⟩
      have e : ((n : Int) / 2 ^ (24 - 8 * k) % 256) = ((UInt8.ofNat (n / 2 ^ (24 - 8 * k) % 256)).toNat : Int) := by
        rw [UInt8.toNat_ofNat']
        push_cast
        omega
      rw [e, ← fourTo_set n k HF.out hlt]
      exact set_heap HB.out _
    · have h4 : k = 4 := by omega
      subst h4
      have hsl := slice4 w2.heap.size wr
      have hcv := text_of (n := 4) hB (by rw [fourTo_len _ _ (by omega)]; omega) 4
      rw [List.take_of_length_le (by rw [fourTo_len _ _ (by omega)]; omega), show fourTo n 4 = four n by simp [fourTo, four]] at hcv
      clear hB
      have h4l : (four n).length = 4 := rfl
      go_wp2_with fail
      go_ret2
      exact ⟨by rw [← Hn.out, frame, ← Hn.out, ← ByteArray.mk_append_mk]; rfl, hb⟩

theorem take_eq (l : List UInt8) (n : Nat) : (⟨l.toArray⟩ : ByteArray).extract 0 n = ⟨(l.take n).toArray⟩ := by
  rw [ByteArray.extract_mk]
  simp

/-- What is whole: the text, or none. -/
def wholeOf (l : List UInt8) : List UInt8 := if whole l = true then l.take (l.length - 4) else []

set_option maxRecDepth 100000 in
set_option maxHeartbeats 1000000 in
theorem whole_any (l : List UInt8) (hl : l.length ≤ 1000000) (w : World) :
    Calls Try.prog 33 #[.string ⟨l.toArray⟩] w fun e w' => e = .returned (.tuple #[.string ⟨(wholeOf l).toArray⟩, .bool (whole l)]) ∧ Below w.heap.size w w' := by
  by_cases h4 : l.length < 4
  · have HW := Lib.hid (show whole l = false by simp [whole]; omega)
    have HO := Lib.hid (show wholeOf l = [] by rw [wholeOf, HW.out]; rfl)
    have h4' : (l.length : Int) - 4 < 0 := by omega
    go_enter Try.func33, Try.ntmps33
    go_wp2_with fail
    go_ret2
    exact ⟨by rw [HW.out, HO.out]; rfl, Below.refl _ _⟩
  · have h4' : (0 : Int) ≤ (l.length : Int) - 4 := by omega
    have HT := Lib.hid (take_eq l (l.length - 4))
    have ht : (l.take (l.length - 4)).length ≤ 1000000 := by rw [List.length_take]; omega
    by_cases hF : frame (l.take (l.length - 4)) = l
    · have HW := Lib.hid (show whole l = true by rw [whole, hF]; simp; omega)
      have HO := Lib.hid (show wholeOf l = l.take (l.length - 4) by rw [wholeOf, HW.out, if_pos rfl])
      have HF := Lib.hid hF
      clear hF
      go_enter Try.func33, Try.ntmps33
      go_wp2_with fail
      rw [HT.out]
      refine (frame_any _ ht _).mono ?_
      rintro e w1 ⟨rfl, hb⟩
      rw [HF.out]
      go_wp2_with fail
      go_ret2
      exact ⟨by rw [HW.out, HO.out, ← HT.out]; rfl, hb⟩
    · have HW := Lib.hid (show whole l = false by rw [whole, decide_eq_false hF, Bool.and_false])
      have HO := Lib.hid (show wholeOf l = [] by rw [wholeOf, HW.out]; rfl)
      go_enter Try.func33, Try.ntmps33
      go_wp2_with fail
      rw [HT.out]
      refine (frame_any _ ht _).mono ?_
      rintro e w1 ⟨rfl, hb⟩
      generalize frame (l.take (l.length - 4)) = G at *
      have hne : (G == l) = false := by simpa using hF
      go_wp2_with fail
      go_ret2
      exact ⟨by rw [HW.out, HO.out]; rfl, hb⟩

theorem four_text {n : Nat} (hn : F32 n) (w : World) :
    (convert 56 9 (.slice (some ⟨w.heap.size, 0, none⟩) 4 4)).run Try.prog (w.alloc (.cells #[.int .u8 ((n : Int) / 16777216 % 256), .int .u8 ((n : Int) / 65536 % 256), .int .u8 ((n : Int) / 256 % 256), .int .u8 ((n : Int) % 256)] 5)) =
      .ok (.string ⟨(four n).toArray⟩) (w.alloc (.cells #[.int .u8 ((n : Int) / 16777216 % 256), .int .u8 ((n : Int) / 65536 % 256), .int .u8 ((n : Int) / 256 % 256), .int .u8 ((n : Int) % 256)] 5)) := by
  have e : (bcells (four n)).toArray = #[.int .u8 ((n : Int) / 16777216 % 256), .int .u8 ((n : Int) / 65536 % 256), .int .u8 ((n : Int) / 256 % 256), .int .u8 ((n : Int) % 256)] := by
    unfold F32 at hn
    simp only [bcells, four, List.map_cons, List.map_nil, UInt8.toNat_ofNat']
    have h1 : ((n / 16777216 % 2 ^ 8 : Nat) : Int) = (n : Int) / 16777216 % 256 := by omega
    have h2 : ((n / 65536 % 256 % 2 ^ 8 : Nat) : Int) = (n : Int) / 65536 % 256 := by omega
    have h3 : ((n / 256 % 256 % 2 ^ 8 : Nat) : Int) = (n : Int) / 256 % 256 := by omega
    have h4 : ((n % 256 % 2 ^ 8 : Nat) : Int) = (n : Int) % 256 := by omega
    rw [h1, h2, h3, h4]
  have := text_of (W := w.alloc (.cells (bcells (four n)).toArray 5)) (B := w.heap.size) (n := 4) (l := four n) (T := 5) (heap_alloc_new _ _) (by simp [four]) 4
  rw [e] at this
  exact this

set_option maxRecDepth 100000 in
set_option maxHeartbeats 1000000 in
theorem qframe_any (l : List UInt8) (hl : l.length ≤ 1000000) (w : World) :
    Calls Try.prog 36 #[.string ⟨l.toArray⟩] w fun e w' => e = .returned (.string ⟨(frame l).toArray⟩) ∧ Below w.heap.size w w' := by
  have Hf := Lib.hid (crcOf_fit l)
  have HX := Lib.hid (show frame l = l ++ four (crcOf l) from rfl)
  go_enter Try.func36, Try.ntmps36
  go_wp2_with fail
  refine (qsum_any l hl _).mono ?_
  rintro e w' ⟨rfl, rfl⟩
  generalize crcOf l = n at *
  have hcv := four_text Hf.out w
  have h4l : (four n).length = 4 := rfl
  go_wp2_with fail
  go_ret
  exact ⟨by rw [HX.out, ← ByteArray.mk_append_mk]; rfl, (Below.refl _ _).alloc (Nat.le_refl _) _⟩

end Go.Proofs.Ytoiaigbagfalmaa
