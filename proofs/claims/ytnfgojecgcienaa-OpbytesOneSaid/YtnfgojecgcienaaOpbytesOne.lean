/- OpbytesOne: for every two operations the law answers true. No condition. -/
import Derived.Test.YtnfgojecgcienaaOpAwake
import Derived.Test.YtnfgojecgcienaaOpOpen
import Derived.Test.YtnfgojecgcienaaOpEql
namespace Go.Proofs.Ytnfgojecgcienaa
open Go.RowKit Go.ChangeShapes Go.WideShapes Go.Joins
set_option linter.unusedVariables false

theorem take_eq (l : List UInt8) (n : Nat) : (⟨l.toArray⟩ : ByteArray).extract 0 n = ⟨(l.take n).toArray⟩ := by
  rw [ByteArray.extract_mk]
  simp

set_option maxRecDepth 100000 in
set_option maxHeartbeats 2000000 in
theorem OpbytesOne_ne {k a1 a2 a3 a4 a5 a6 a7 a8 q b1 b2 b3 b4 b5 b6 b7 b8 : Int} {s t : List UInt8} (ho : OpOk ⟨k, [a1, a2, a3, a4, a5, a6, a7, a8], s⟩) (hp : OpOk ⟨q, [b1, b2, b3, b4, b5, b6, b7, b8], t⟩) (w : World)
    (hm : mayOp ⟨k, [a1, a2, a3, a4, a5, a6, a7, a8], s⟩ = true) (hn : mayOp ⟨q, [b1, b2, b3, b4, b5, b6, b7, b8], t⟩ = true) (hne : (⟨k, [a1, a2, a3, a4, a5, a6, a7, a8], s⟩ : OpV) ≠ ⟨q, [b1, b2, b3, b4, b5, b6, b7, b8], t⟩) :
    Calls Try.prog 6 #[.agg (opCells ⟨k, [a1, a2, a3, a4, a5, a6, a7, a8], s⟩).toArray, .agg (opCells ⟨q, [b1, b2, b3, b4, b5, b6, b7, b8], t⟩).toArray] w fun e w' => e = .returned (.bool true) ∧ Below w.heap.size w w' := by
  have HM := Lib.hid hm
  have HN := Lib.hid hn
  have hs := (mayOp_iff.1 hm).2.2
  have ht := (mayOp_iff.1 hn).2.2
  simp only at hs ht
  have heq : ∀ w, (Go.binOp .eql 23 (.agg #[.int .i64 k, .int .i64 a1, .int .i64 a2, .int .i64 a3, .int .i64 a4, .int .i64 a5, .int .i64 a6, .int .i64 a7, .int .i64 a8, .string ⟨s.toArray⟩]) (.agg #[.int .i64 q, .int .i64 b1, .int .i64 b2, .int .i64 b3, .int .i64 b4, .int .i64 b5, .int .i64 b6, .int .i64 b7, .int .i64 b8, .string ⟨t.toArray⟩])).run Try.prog w = .ok (.bool false) w := fun w => by rw [op_eql, decide_eq_false hne]
  have hST : encOp ⟨k, [a1, a2, a3, a4, a5, a6, a7, a8], s⟩ ≠ encOp ⟨q, [b1, b2, b3, b4, b5, b6, b7, b8], t⟩ := fun e => hne (enc_prefix ho hp hm hn (t := []) (by rw [List.append_nil]; exact e.symm)).1
  have hPre : (encOp ⟨q, [b1, b2, b3, b4, b5, b6, b7, b8], t⟩).take (encOp ⟨k, [a1, a2, a3, a4, a5, a6, a7, a8], s⟩).length ≠ encOp ⟨k, [a1, a2, a3, a4, a5, a6, a7, a8], s⟩ := fun e => hne (enc_prefix ho hp hm hn (t := (encOp ⟨q, [b1, b2, b3, b4, b5, b6, b7, b8], t⟩).drop (encOp ⟨k, [a1, a2, a3, a4, a5, a6, a7, a8], s⟩).length) (by conv => lhs; rw [← List.take_append_drop (encOp ⟨k, [a1, a2, a3, a4, a5, a6, a7, a8], s⟩).length (encOp ⟨q, [b1, b2, b3, b4, b5, b6, b7, b8], t⟩)]; rw [e])).1
  have hLA := encOp_len ho.1
  have hLB := encOp_len hp.1
  simp only at hLA hLB
  clear hm hn hne
  have hA := (BlkAt.new w 23 (opCells ⟨k, [a1, a2, a3, a4, a5, a6, a7, a8], s⟩)).alloc (.cells (opCells ⟨q, [b1, b2, b3, b4, b5, b6, b7, b8], t⟩).toArray 23)
  have hB := BlkAt.newAt (w := w.alloc (.cells (opCells ⟨k, [a1, a2, a3, a4, a5, a6, a7, a8], s⟩).toArray 23)) (n := w.heap.size + 1) (by simp) 23 (opCells ⟨q, [b1, b2, b3, b4, b5, b6, b7, b8], t⟩)
  have hbel := ((Below.refl w.heap.size w).alloc (Nat.le_refl _) (.cells (opCells ⟨k, [a1, a2, a3, a4, a5, a6, a7, a8], s⟩).toArray 23)).alloc (by simp) (.cells (opCells ⟨q, [b1, b2, b3, b4, b5, b6, b7, b8], t⟩).toArray 23)
  go_enter Try.func6, Try.ntmps6
  go_wp2_with fail
  refine (awake_any _).mono ?_
  rintro e w1 ⟨rfl, c1⟩
  have hA1 := hA.below c1
  have hB1 := hB.below c1
  have hbel1 := below_step hbel c1
  obtain ⟨h0, h1, h2, h3, h4, h5, h6, h7, h8, h9⟩ := op_conj hA1
  obtain ⟨i0, i1, i2, i3, i4, i5, i6, i7, i8, i9⟩ := op_conj hB1
  clear hA hB hbel c1
  go_wp2_with fail
  refine (print_yes (o := ⟨k, [a1, a2, a3, a4, a5, a6, a7, a8], s⟩) ho HM.out _).mono ?_
  rintro e w2 ⟨rfl, c2⟩
  have hA2 := hA1.below c2
  have hB2 := hB1.below c2
  have hbel2 := below_step hbel1 c2
  clear h0 h1 h2 h3 h4 h5 h6 h7 h8 h9 i0 i1 i2 i3 i4 i5 i6 i7 i8 i9 hA1 hB1 hbel1 c2
  obtain ⟨i0, i1, i2, i3, i4, i5, i6, i7, i8, i9⟩ := op_conj hB2
  go_wp2_with fail
  refine (print_yes (o := ⟨q, [b1, b2, b3, b4, b5, b6, b7, b8], t⟩) hp HN.out _).mono ?_
  rintro e w3 ⟨rfl, c3⟩
  have hA3 := hA2.below c3
  have hB3 := hB2.below c3
  have hbel3 := below_step hbel2 c3
  clear i0 i1 i2 i3 i4 i5 i6 i7 i8 i9 hA2 hB2 hbel2 c3
  obtain ⟨h0, h1, h2, h3, h4, h5, h6, h7, h8, h9⟩ := op_conj hA3
  obtain ⟨i0, i1, i2, i3, i4, i5, i6, i7, i8, i9⟩ := op_conj hB3
  generalize encOp ⟨k, [a1, a2, a3, a4, a5, a6, a7, a8], s⟩ = S at *
  generalize encOp ⟨q, [b1, b2, b3, b4, b5, b6, b7, b8], t⟩ = T at *
  have hst : (S == T) = false := by simpa using hST
  have htk := take_eq T S.length
  have hpr : (T.take S.length == S) = false := by simpa using hPre
  have hpn : (T.take S.length != S) = true := by simpa using hPre
  have HST := Lib.hid hST
  have HPre := Lib.hid hPre
  clear hST hPre HM HN
  by_cases hlen : (T.length : Int) < S.length
  · go_wp2_with fail
    go_ret
    exact ⟨rfl, hbel3⟩
  · have hlen : (S.length : Int) ≤ T.length := by omega
    go_wp2_with fail
    go_ret
    exact ⟨rfl, hbel3⟩

set_option maxRecDepth 100000 in
set_option maxHeartbeats 2000000 in
theorem OpbytesOne_nn {k a1 a2 a3 a4 a5 a6 a7 a8 q b1 b2 b3 b4 b5 b6 b7 b8 : Int} {s t : List UInt8} (ho : OpOk ⟨k, [a1, a2, a3, a4, a5, a6, a7, a8], s⟩) (hp : OpOk ⟨q, [b1, b2, b3, b4, b5, b6, b7, b8], t⟩) (w : World)
    (hs : s.length ≤ 1000) (ht : t.length ≤ 1000) (hm : mayOp ⟨k, [a1, a2, a3, a4, a5, a6, a7, a8], s⟩ = false) (hn : mayOp ⟨q, [b1, b2, b3, b4, b5, b6, b7, b8], t⟩ = false) :
    Calls Try.prog 6 #[.agg (opCells ⟨k, [a1, a2, a3, a4, a5, a6, a7, a8], s⟩).toArray, .agg (opCells ⟨q, [b1, b2, b3, b4, b5, b6, b7, b8], t⟩).toArray] w fun e w' => e = .returned (.bool true) ∧ Below w.heap.size w w' := by
  have HM := Lib.hid hm
  have HN := Lib.hid hn
  clear hm hn
  have hA := (BlkAt.new w 23 (opCells ⟨k, [a1, a2, a3, a4, a5, a6, a7, a8], s⟩)).alloc (.cells (opCells ⟨q, [b1, b2, b3, b4, b5, b6, b7, b8], t⟩).toArray 23)
  have hB := BlkAt.newAt (w := w.alloc (.cells (opCells ⟨k, [a1, a2, a3, a4, a5, a6, a7, a8], s⟩).toArray 23)) (n := w.heap.size + 1) (by simp) 23 (opCells ⟨q, [b1, b2, b3, b4, b5, b6, b7, b8], t⟩)
  have hbel := ((Below.refl w.heap.size w).alloc (Nat.le_refl _) (.cells (opCells ⟨k, [a1, a2, a3, a4, a5, a6, a7, a8], s⟩).toArray 23)).alloc (by simp) (.cells (opCells ⟨q, [b1, b2, b3, b4, b5, b6, b7, b8], t⟩).toArray 23)
  go_enter Try.func6, Try.ntmps6
  go_wp2_with fail
  refine (awake_any _).mono ?_
  rintro e w1 ⟨rfl, c1⟩
  have hA1 := hA.below c1
  have hB1 := hB.below c1
  have hbel1 := below_step hbel c1
  obtain ⟨h0, h1, h2, h3, h4, h5, h6, h7, h8, h9⟩ := op_conj hA1
  obtain ⟨i0, i1, i2, i3, i4, i5, i6, i7, i8, i9⟩ := op_conj hB1
  clear hA hB hbel c1
  go_wp2_with fail
  refine (print_no (o := ⟨k, [a1, a2, a3, a4, a5, a6, a7, a8], s⟩) ho HM.out _).mono ?_
  rintro e w2 ⟨rfl, c2⟩
  have hB2 := hB1.below c2
  have hbel2 := below_step hbel1 c2
  clear h0 h1 h2 h3 h4 h5 h6 h7 h8 h9 i0 i1 i2 i3 i4 i5 i6 i7 i8 i9 hA1 hB1 hbel1 c2
  obtain ⟨i0, i1, i2, i3, i4, i5, i6, i7, i8, i9⟩ := op_conj hB2
  go_wp2_with fail
  refine (print_no (o := ⟨q, [b1, b2, b3, b4, b5, b6, b7, b8], t⟩) hp HN.out _).mono ?_
  rintro e w3 ⟨rfl, c3⟩
  have hbel3 := below_step hbel2 c3
  clear i0 i1 i2 i3 i4 i5 i6 i7 i8 i9 hB2 hbel2 c3
  go_wp2_with fail
  go_ret
  exact ⟨rfl, hbel3⟩

set_option maxRecDepth 100000 in
set_option maxHeartbeats 2000000 in
theorem OpbytesOne_ny {k a1 a2 a3 a4 a5 a6 a7 a8 q b1 b2 b3 b4 b5 b6 b7 b8 : Int} {s t : List UInt8} (ho : OpOk ⟨k, [a1, a2, a3, a4, a5, a6, a7, a8], s⟩) (hp : OpOk ⟨q, [b1, b2, b3, b4, b5, b6, b7, b8], t⟩) (w : World)
    (hs : s.length ≤ 1000) (ht : t.length ≤ 1000) (hm : mayOp ⟨k, [a1, a2, a3, a4, a5, a6, a7, a8], s⟩ = false) (hn : mayOp ⟨q, [b1, b2, b3, b4, b5, b6, b7, b8], t⟩ = true) :
    Calls Try.prog 6 #[.agg (opCells ⟨k, [a1, a2, a3, a4, a5, a6, a7, a8], s⟩).toArray, .agg (opCells ⟨q, [b1, b2, b3, b4, b5, b6, b7, b8], t⟩).toArray] w fun e w' => e = .returned (.bool true) ∧ Below w.heap.size w w' := by
  have HM := Lib.hid hm
  have HN := Lib.hid hn
  clear hm hn
  have hA := (BlkAt.new w 23 (opCells ⟨k, [a1, a2, a3, a4, a5, a6, a7, a8], s⟩)).alloc (.cells (opCells ⟨q, [b1, b2, b3, b4, b5, b6, b7, b8], t⟩).toArray 23)
  have hB := BlkAt.newAt (w := w.alloc (.cells (opCells ⟨k, [a1, a2, a3, a4, a5, a6, a7, a8], s⟩).toArray 23)) (n := w.heap.size + 1) (by simp) 23 (opCells ⟨q, [b1, b2, b3, b4, b5, b6, b7, b8], t⟩)
  have hbel := ((Below.refl w.heap.size w).alloc (Nat.le_refl _) (.cells (opCells ⟨k, [a1, a2, a3, a4, a5, a6, a7, a8], s⟩).toArray 23)).alloc (by simp) (.cells (opCells ⟨q, [b1, b2, b3, b4, b5, b6, b7, b8], t⟩).toArray 23)
  go_enter Try.func6, Try.ntmps6
  go_wp2_with fail
  refine (awake_any _).mono ?_
  rintro e w1 ⟨rfl, c1⟩
  have hA1 := hA.below c1
  have hB1 := hB.below c1
  have hbel1 := below_step hbel c1
  obtain ⟨h0, h1, h2, h3, h4, h5, h6, h7, h8, h9⟩ := op_conj hA1
  obtain ⟨i0, i1, i2, i3, i4, i5, i6, i7, i8, i9⟩ := op_conj hB1
  clear hA hB hbel c1
  go_wp2_with fail
  refine (print_no (o := ⟨k, [a1, a2, a3, a4, a5, a6, a7, a8], s⟩) ho HM.out _).mono ?_
  rintro e w2 ⟨rfl, c2⟩
  have hB2 := hB1.below c2
  have hbel2 := below_step hbel1 c2
  clear h0 h1 h2 h3 h4 h5 h6 h7 h8 h9 i0 i1 i2 i3 i4 i5 i6 i7 i8 i9 hA1 hB1 hbel1 c2
  obtain ⟨i0, i1, i2, i3, i4, i5, i6, i7, i8, i9⟩ := op_conj hB2
  go_wp2_with fail
  refine (print_yes (o := ⟨q, [b1, b2, b3, b4, b5, b6, b7, b8], t⟩) hp HN.out _).mono ?_
  rintro e w3 ⟨rfl, c3⟩
  have hbel3 := below_step hbel2 c3
  clear i0 i1 i2 i3 i4 i5 i6 i7 i8 i9 hB2 hbel2 c3
  go_wp2_with fail
  go_ret
  exact ⟨rfl, hbel3⟩

set_option maxRecDepth 100000 in
set_option maxHeartbeats 2000000 in
theorem OpbytesOne_yn {k a1 a2 a3 a4 a5 a6 a7 a8 q b1 b2 b3 b4 b5 b6 b7 b8 : Int} {s t : List UInt8} (ho : OpOk ⟨k, [a1, a2, a3, a4, a5, a6, a7, a8], s⟩) (hp : OpOk ⟨q, [b1, b2, b3, b4, b5, b6, b7, b8], t⟩) (w : World)
    (hs : s.length ≤ 1000) (ht : t.length ≤ 1000) (hm : mayOp ⟨k, [a1, a2, a3, a4, a5, a6, a7, a8], s⟩ = true) (hn : mayOp ⟨q, [b1, b2, b3, b4, b5, b6, b7, b8], t⟩ = false) :
    Calls Try.prog 6 #[.agg (opCells ⟨k, [a1, a2, a3, a4, a5, a6, a7, a8], s⟩).toArray, .agg (opCells ⟨q, [b1, b2, b3, b4, b5, b6, b7, b8], t⟩).toArray] w fun e w' => e = .returned (.bool true) ∧ Below w.heap.size w w' := by
  have HM := Lib.hid hm
  have HN := Lib.hid hn
  clear hm hn
  have hA := (BlkAt.new w 23 (opCells ⟨k, [a1, a2, a3, a4, a5, a6, a7, a8], s⟩)).alloc (.cells (opCells ⟨q, [b1, b2, b3, b4, b5, b6, b7, b8], t⟩).toArray 23)
  have hB := BlkAt.newAt (w := w.alloc (.cells (opCells ⟨k, [a1, a2, a3, a4, a5, a6, a7, a8], s⟩).toArray 23)) (n := w.heap.size + 1) (by simp) 23 (opCells ⟨q, [b1, b2, b3, b4, b5, b6, b7, b8], t⟩)
  have hbel := ((Below.refl w.heap.size w).alloc (Nat.le_refl _) (.cells (opCells ⟨k, [a1, a2, a3, a4, a5, a6, a7, a8], s⟩).toArray 23)).alloc (by simp) (.cells (opCells ⟨q, [b1, b2, b3, b4, b5, b6, b7, b8], t⟩).toArray 23)
  go_enter Try.func6, Try.ntmps6
  go_wp2_with fail
  refine (awake_any _).mono ?_
  rintro e w1 ⟨rfl, c1⟩
  have hA1 := hA.below c1
  have hB1 := hB.below c1
  have hbel1 := below_step hbel c1
  obtain ⟨h0, h1, h2, h3, h4, h5, h6, h7, h8, h9⟩ := op_conj hA1
  obtain ⟨i0, i1, i2, i3, i4, i5, i6, i7, i8, i9⟩ := op_conj hB1
  clear hA hB hbel c1
  go_wp2_with fail
  refine (print_yes (o := ⟨k, [a1, a2, a3, a4, a5, a6, a7, a8], s⟩) ho HM.out _).mono ?_
  rintro e w2 ⟨rfl, c2⟩
  have hB2 := hB1.below c2
  have hbel2 := below_step hbel1 c2
  clear h0 h1 h2 h3 h4 h5 h6 h7 h8 h9 i0 i1 i2 i3 i4 i5 i6 i7 i8 i9 hA1 hB1 hbel1 c2
  obtain ⟨i0, i1, i2, i3, i4, i5, i6, i7, i8, i9⟩ := op_conj hB2
  go_wp2_with fail
  refine (print_no (o := ⟨q, [b1, b2, b3, b4, b5, b6, b7, b8], t⟩) hp HN.out _).mono ?_
  rintro e w3 ⟨rfl, c3⟩
  have hbel3 := below_step hbel2 c3
  clear i0 i1 i2 i3 i4 i5 i6 i7 i8 i9 hB2 hbel2 c3
  go_wp2_with fail
  go_ret
  exact ⟨rfl, hbel3⟩

set_option maxRecDepth 100000 in
set_option maxHeartbeats 2000000 in
theorem OpbytesOne_eq {k a1 a2 a3 a4 a5 a6 a7 a8 : Int} {s : List UInt8} (ho : OpOk ⟨k, [a1, a2, a3, a4, a5, a6, a7, a8], s⟩) (w : World) (hm : mayOp ⟨k, [a1, a2, a3, a4, a5, a6, a7, a8], s⟩ = true) :
    Calls Try.prog 6 #[.agg (opCells ⟨k, [a1, a2, a3, a4, a5, a6, a7, a8], s⟩).toArray, .agg (opCells ⟨k, [a1, a2, a3, a4, a5, a6, a7, a8], s⟩).toArray] w fun e w' => e = .returned (.bool true) ∧ Below w.heap.size w w' := by
  have HM := Lib.hid hm
  have hs := (mayOp_iff.1 hm).2.2
  simp only at hs
  have hLA := encOp_len ho.1
  simp only at hLA
  clear hm
  have hA := (BlkAt.new w 23 (opCells ⟨k, [a1, a2, a3, a4, a5, a6, a7, a8], s⟩)).alloc (.cells (opCells ⟨k, [a1, a2, a3, a4, a5, a6, a7, a8], s⟩).toArray 23)
  have hB := BlkAt.newAt (w := w.alloc (.cells (opCells ⟨k, [a1, a2, a3, a4, a5, a6, a7, a8], s⟩).toArray 23)) (n := w.heap.size + 1) (by simp) 23 (opCells ⟨k, [a1, a2, a3, a4, a5, a6, a7, a8], s⟩)
  have hbel := ((Below.refl w.heap.size w).alloc (Nat.le_refl _) (.cells (opCells ⟨k, [a1, a2, a3, a4, a5, a6, a7, a8], s⟩).toArray 23)).alloc (by simp) (.cells (opCells ⟨k, [a1, a2, a3, a4, a5, a6, a7, a8], s⟩).toArray 23)
  go_enter Try.func6, Try.ntmps6
  go_wp2_with fail
  refine (awake_any _).mono ?_
  rintro e w1 ⟨rfl, c1⟩
  have hA1 := hA.below c1
  have hB1 := hB.below c1
  have hbel1 := below_step hbel c1
  obtain ⟨h0, h1, h2, h3, h4, h5, h6, h7, h8, h9⟩ := op_conj hA1
  obtain ⟨i0, i1, i2, i3, i4, i5, i6, i7, i8, i9⟩ := op_conj hB1
  clear hA hB hbel c1
  go_wp2_with fail
  refine (print_yes (o := ⟨k, [a1, a2, a3, a4, a5, a6, a7, a8], s⟩) ho HM.out _).mono ?_
  rintro e w2 ⟨rfl, c2⟩
  have hA2 := hA1.below c2
  have hB2 := hB1.below c2
  have hbel2 := below_step hbel1 c2
  clear h0 h1 h2 h3 h4 h5 h6 h7 h8 h9 i0 i1 i2 i3 i4 i5 i6 i7 i8 i9 hA1 hB1 hbel1 c2
  obtain ⟨i0, i1, i2, i3, i4, i5, i6, i7, i8, i9⟩ := op_conj hB2
  go_wp2_with fail
  refine (print_yes (o := ⟨k, [a1, a2, a3, a4, a5, a6, a7, a8], s⟩) ho HM.out _).mono ?_
  rintro e w3 ⟨rfl, c3⟩
  have hA3 := hA2.below c3
  have hB3 := hB2.below c3
  have hbel3 := below_step hbel2 c3
  clear i0 i1 i2 i3 i4 i5 i6 i7 i8 i9 hA2 hB2 hbel2 c3
  obtain ⟨h0, h1, h2, h3, h4, h5, h6, h7, h8, h9⟩ := op_conj hA3
  obtain ⟨i0, i1, i2, i3, i4, i5, i6, i7, i8, i9⟩ := op_conj hB3
  go_wp2_with fail
  go_ret
  exact ⟨rfl, hbel3⟩

set_option maxRecDepth 100000 in
set_option maxHeartbeats 1000000 in
theorem OpbytesOne_out {a b : OpV} (ha : OpOk a) (hb : OpOk b) (w : World) (h : 1000 < a.cron.length ∨ 1000 < b.cron.length) :
    Calls Try.prog 6 #[.agg (opCells a).toArray, .agg (opCells b).toArray] w fun e w' => e = .returned (.bool true) ∧ Below w.heap.size w w' := by
  have hla := ha.2.2.2
  have hlb := hb.2.2.2
  unfold maxLen at hla hlb
  have hA := (BlkAt.new w 23 (opCells a)).alloc (.cells (opCells b).toArray 23)
  have hB := BlkAt.newAt (w := w.alloc (.cells (opCells a).toArray 23)) (n := w.heap.size + 1) (by simp) 23 (opCells b)
  have hbel := ((Below.refl w.heap.size w).alloc (Nat.le_refl _) (.cells (opCells a).toArray 23)).alloc (by simp) (.cells (opCells b).toArray 23)
  by_cases h1 : 1000 < a.cron.length
  · clear h
    go_enter Try.func6, Try.ntmps6
    go_wp2_with fail
    refine (awake_any _).mono ?_
    rintro e w1 ⟨rfl, b1⟩
    have c9 := (hA.below b1).cell (op_cell9 ha.1)
    have d9 := (hB.below b1).cell (op_cell9 hb.1)
    have hb1 := below_step hbel b1
    clear hA hB hbel b1
    go_wp2_with fail
    refine (awake_any _).mono ?_
    rintro e w2 ⟨rfl, b2⟩
    have hb2 := below_step hb1 b2
    go_wp2_with fail
    go_ret
    exact ⟨rfl, hb2⟩
  · have h2 : 1000 < b.cron.length := by omega
    clear h
    go_enter Try.func6, Try.ntmps6
    go_wp2_with fail
    refine (awake_any _).mono ?_
    rintro e w1 ⟨rfl, b1⟩
    have c9 := (hA.below b1).cell (op_cell9 ha.1)
    have d9 := (hB.below b1).cell (op_cell9 hb.1)
    have hb1 := below_step hbel b1
    clear hA hB hbel b1
    go_wp2_with fail
    refine (awake_any _).mono ?_
    rintro e w2 ⟨rfl, b2⟩
    have hb2 := below_step hb1 b2
    go_wp2_with fail
    go_ret
    exact ⟨rfl, hb2⟩

theorem OpbytesOne_walk {H : Type} {enc : TypeId × Value → H} {base : Nat} {d d' : DataW H} {p p' : List MemPlace} (v v' : Value) (w : World) (hv : Value.okWide Try.prog w .any base 23 v) (ht : DataW.Trod enc Try.prog w 0 (fun _ => true) true 23 v d p)
    (hv' : Value.okWide Try.prog w .any base 23 v') (ht' : DataW.Trod enc Try.prog w 0 (fun _ => true) true 23 v' d' p') :
    Calls Try.prog 6 #[v, v'] w fun e w' => e = .returned (.bool true) ∧ Below w.heap.size w w' := by
  obtain ⟨a, ha, rfl⟩ := open_op hv ht
  obtain ⟨b, hb, rfl⟩ := open_op hv' ht'
  by_cases h : 1000 < a.cron.length ∨ 1000 < b.cron.length
  · exact OpbytesOne_out ha hb w h
  · obtain ⟨k, v, s⟩ := a
    obtain ⟨q, v', t⟩ := b
    obtain ⟨a1, a2, a3, a4, a5, a6, a7, a8, rfl⟩ := list8 ha.1
    obtain ⟨b1, b2, b3, b4, b5, b6, b7, b8, rfl⟩ := list8 hb.1
    have hs : s.length ≤ 1000 := by simp only at h; omega
    have ht : t.length ≤ 1000 := by simp only at h; omega
    rcases Bool.eq_false_or_eq_true (mayOp ⟨k, [a1, a2, a3, a4, a5, a6, a7, a8], s⟩) with hm | hm <;> rcases Bool.eq_false_or_eq_true (mayOp ⟨q, [b1, b2, b3, b4, b5, b6, b7, b8], t⟩) with hn | hn
    · by_cases he : (⟨k, [a1, a2, a3, a4, a5, a6, a7, a8], s⟩ : OpV) = ⟨q, [b1, b2, b3, b4, b5, b6, b7, b8], t⟩
      · simp only [OpV.mk.injEq, List.cons.injEq, and_true] at he
        obtain ⟨rfl, ⟨rfl, rfl, rfl, rfl, rfl, rfl, rfl, rfl⟩, rfl⟩ := he
        exact OpbytesOne_eq ha w hm
      · exact OpbytesOne_ne ha hb w hm hn he
    · exact OpbytesOne_yn ha hb w hs ht hm hn
    · exact OpbytesOne_ny ha hb w hs ht hm hn
    · exact OpbytesOne_nn ha hb w hs ht hm hn


theorem OpbytesOne_calls (H : Type) (enc : TypeId × Value → H) (W : World) (base : Nat) (args : Array Value) (ds gs : List (DataW H)) (before : List MemPlace)
    (hval : ∀ (j : Nat) t v, Try.f6.params[j]? = some t → args[j]? = some v → Value.okWide Try.prog W .any base t v)
    (hW : DataW.Whole enc Try.prog Try.f6.params.toList Rows.opbytesOneSpec.vars false W args.toList ds gs before) :
    Calls Try.prog 6 args W fun e W' => e = .returned (.bool true) ∧ Below W.heap.size W W' := by
  obtain ⟨p, q, hA, hV, rfl, hfz, hnd⟩ := hW
  rw [Try.params6] at hA hval
  obtain ⟨v0, vs0, d0, ds0, p0, q0, hargs, rfl, rfl, h0, r0⟩ := trodAll_cons hA
  obtain ⟨v1, vs1, d1, ds1, p1, q1, rfl, rfl, rfl, h1, r1⟩ := trodAll_cons r0
  obtain ⟨rfl, rfl, rfl⟩ := trodAll_nil r1
  obtain rfl : args = #[v0, v1] := Array.toList_inj.1 hargs

  exact OpbytesOne_walk v0 v1 W (hval 0 23 v0 rfl rfl) h0 (hval 1 23 v1 rfl rfl) h1

set_option maxRecDepth 100000 in
theorem OpbytesOne_lifted (os : Os) (started : os.Started) (H : Type) (enc : TypeId × Value → H) :
    ReturnsInHanded {} Try.checked os 6 .any (Rows.opbytesOneSpec.pre6 enc Try.prog Try.f6 Rows.opbytesOneRow.domain false) (Rows.opbytesOneSpec.post enc Try.prog Try.f6 false true false false) := by
  refine returnsInHanded_of_change (C := Try.checked) own started (by kernel_rfl) Try.func6
    (ChangeSpec.witness6 (enc := enc) (C := Try.checked) false ⟨#[], #[.agg #[.int .i64 0, .int .i64 0, .int .i64 0, .int .i64 0, .int .i64 0, .int .i64 0, .int .i64 0, .int .i64 0, .int .i64 0, .string ByteArray.empty], .agg #[.int .i64 0, .int .i64 0, .int .i64 0, .int .i64 0, .int .i64 0, .int .i64 0, .int .i64 0, .int .i64 0, .int .i64 0, .string ByteArray.empty]], []⟩ 8 (by kernel_rfl) (by kernel_rfl) (by kernel_rfl) (by kernel_rfl)) ?_
  intro W base args ds gs before hval0 hW hcnd _
  have hval : ∀ (j : Nat) t v, Try.f6.params[j]? = some t → args[j]? = some v → Value.okWide Try.prog W .any base t v := hval0
  refine (OpbytesOne_calls H enc W base args ds gs before hval hW).mono fun e W' ⟨he, bel⟩ => ?_
  exact ⟨_, he, law_post (ts := [23, 23]) (by rw [Try.params6]) (by intro t ht; simp only [List.mem_cons, List.not_mem_nil, or_false] at ht; rcases ht with rfl | rfl <;> exact ⟨by kernel_rfl, of_decide_eq_true (by kernel_rfl)⟩) hW rfl
    (fun ds h => by match ds, h with | [_, _], _ => rfl) (by kernel_rfl) bel⟩

theorem OpbytesOne_over : Rows.opbytesOneRow.holds Try.pinned (OpenSpec.ofChange Rows.opbytesOneSpec) :=
  OpenClaim.holds_of_wide 6 Try.f6 rfl rfl rfl rfl rfl rfl rfl ⟨rfl, rfl, rfl, rfl, rfl⟩ rfl rfl rfl rfl rfl (by kernel_rfl) Try.func6 (by kernel_rfl)
    (of_decide_eq_true (by kernel_rfl)) (by unfold Func.isWrapper; first | (rw [if_pos (by decide +kernel)]; kernel_rfl) | (rw [if_neg (by decide +kernel)]; exact ⟨rfl, rfl⟩))
    (fun os started H enc _ => OpbytesOne_lifted os started H enc)

/-- The statement. -/
theorem OpbytesOne_proved : Rows.OpbytesOneSaid := OpbytesOne_over

end Go.Proofs.Ytnfgojecgcienaa
