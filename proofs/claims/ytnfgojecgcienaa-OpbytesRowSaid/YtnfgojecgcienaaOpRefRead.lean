/- The contract of the document's Read. -/
import Derived.Test.YtnfgojecgcienaaOpRefTake
import Derived.Test.YtnfgojecgcienaaOpLaws
namespace Go.Proofs.Ytnfgojecgcienaa
open Go.RowKit Go.ChangeShapes Go.WideShapes Go.Joins
set_option linter.unusedVariables false

theorem qTake_ok (l : List UInt8) (e : Int) (hl : l.length ≤ 1000000) : OpOk (qTake l e).1 ∧ (qTake l e).2.2.1.length ≤ l.length := by
  have h := rawOp_ok l e hl
  unfold qTake
  simp only
  split
  · exact h
  · exact ⟨opZero_ok, h.2⟩
theorem take_q (l : List UInt8) (e : Int) : (takeOp l e).1 = (qTake l e).1 ∧ ((takeOp l e).2.2 = 0 ↔ (qTake l e).2.1 = true) ∧ (takeOp l e).2.1 = (qTake l e).2.2.1 := by
  unfold takeOp qTake
  generalize rawOp l e = R
  obtain ⟨r, l1, e1⟩ := R
  simp only
  by_cases hm : mayOp r = true
  · rw [if_pos hm]
    by_cases h0 : e1 = 0
    · rw [if_pos h0, if_pos ⟨h0, hm⟩]
      simp [h0]
    · rw [if_neg h0, if_neg (fun h => h0 h.1)]
      simp [h0]
  · rw [if_neg hm]
    have hf : fst_ e1 3 ≠ 0 := by unfold fst_; split <;> omega
    rw [if_neg hf, if_neg (fun h => hm h.2)]
    simp [hf]
theorem read_q (l : List UInt8) : readOp l = if (qTake l 0).2.1 = true ∧ (qTake l 0).2.2.1 = [] then ((qTake l 0).1, true) else (opZero, false) := by
  obtain ⟨h1, h2, h3⟩ := take_q l 0
  unfold readOp
  simp only [h1, h2, h3]

set_option maxRecDepth 100000 in
set_option maxHeartbeats 2000000 in
theorem qoread_any (l : List UInt8) (hl : l.length ≤ 1000000) (w : World) :
    Calls Try.prog 13 #[.string ⟨l.toArray⟩] w fun en w' => en = .returned (.tuple #[.agg (opCells (readOp l).1).toArray, .bool (readOp l).2]) ∧ Below w.heap.size w w' := by
  have hok := qTake_ok l 0 hl
  have HR0 := Lib.hid (read_q l)
  go_enter Try.func13, Try.ntmps13
  go_wp2_with fail
  have hC : BlkAt (w.alloc (.cells (opCells opZero).toArray 23)) w.heap.size 23 (opCells opZero) := BlkAt.new _ _ _
  have hb0 := (Below.refl w.heap.size w).alloc (Nat.le_refl _) (.cells (opCells opZero).toArray 23)
  have hF0 : RfAt ((w.alloc (.cells (opCells opZero).toArray 23)).alloc (.cells #[.string ⟨l.toArray⟩, .int .i64 0, .int .i64 0] 40)) (w.heap.size + 1) l 0 0 := by
    have := heap_alloc_new (w.alloc (.cells (opCells opZero).toArray 23)) (.cells #[.string ⟨l.toArray⟩, .int .i64 0, .int .i64 0] 40)
    rw [show (w.alloc (.cells (opCells opZero).toArray 23)).heap.size = w.heap.size + 1 by simp] at this
    exact this
  have hC0 := hC.alloc (.cells #[.string ⟨l.toArray⟩, .int .i64 0, .int .i64 0] 40)
  have hb1 := hb0.alloc hb0.size (.cells #[.string ⟨l.toArray⟩, .int .i64 0, .int .i64 0] 40)
  change Calls _ _ _ ((w.alloc (.cells (opCells opZero).toArray 23)).alloc (.cells #[.string ⟨l.toArray⟩, .int .i64 0, .int .i64 0] 40)) _
  generalize (w.alloc (.cells (opCells opZero).toArray 23)).alloc (.cells #[.string ⟨l.toArray⟩, .int .i64 0, .int .i64 0] 40) = w1 at *
  have hCb : w.heap.size ≠ w.heap.size + 1 := by omega
  have hbw : w.heap.size ≤ w.heap.size + 1 := by omega
  obtain ⟨b, hbd⟩ : ∃ b, b = w.heap.size + 1 := ⟨_, rfl⟩
  rw [← hbd] at hF0 hCb hbw ⊢
  clear hC hb0 hbd
  refine (qotake_any (by exact hF0) hl (Nat.zero_le _)).mono ?_
  rintro en w2 ⟨rfl, ⟨a', ha', hda, hF2⟩, g2⟩
  rw [List.drop_zero] at hda hF2 ⊢
  have hC2 := hC0.grown g2 hCb
  have hb2 := grown_below hb1 g2 hbw
  clear hC0 hb1 hF0 g2
  generalize qTake l 0 = R at *
  obtain ⟨⟨k, v, s⟩, ok, l', e'⟩ := R
  obtain ⟨a1, a2, a3, a4, a5, a6, a7, a8, rfl⟩ := list8 hok.1.1
  simp only at HR0 hok hF2 hda ⊢
  rw [op_lit]
  have HF2 := Lib.hid hF2
  have HDA := Lib.hid hda
  clear hF2 hda
  go_upto_region 3 with (fail)
  have hO : BlkAt (w2.alloc (.cells (opCells ⟨k, [a1, a2, a3, a4, a5, a6, a7, a8], s⟩).toArray 23)) w2.heap.size 23 (opCells ⟨k, [a1, a2, a3, a4, a5, a6, a7, a8], s⟩) := BlkAt.new _ _ _
  have hF3 := HF2.out.below ((Below.refl _ _).alloc (Nat.le_refl _) (.cells (opCells ⟨k, [a1, a2, a3, a4, a5, a6, a7, a8], s⟩).toArray 23))
  have hC3 := hC2.alloc (.cells (opCells ⟨k, [a1, a2, a3, a4, a5, a6, a7, a8], s⟩).toArray 23)
  have hb3 := hb2.alloc hb2.size (.cells (opCells ⟨k, [a1, a2, a3, a4, a5, a6, a7, a8], s⟩).toArray 23)
  change Code.wp _ _ _ _ (w2.alloc (.cells (opCells ⟨k, [a1, a2, a3, a4, a5, a6, a7, a8], s⟩).toArray 23))
  generalize w2.alloc (.cells (opCells ⟨k, [a1, a2, a3, a4, a5, a6, a7, a8], s⟩).toArray 23) = w3 at *
  generalize w2.heap.size = T at *
  clear HF2 hC2 hb2
  have hc1 := hF3.cell1
  clear hF3
  have hlen : l' = [] ↔ a' = l.length := by
    rw [← HDA.out]
    constructor
    · intro h
      have := congrArg List.length h
      rw [List.length_drop, List.length_nil] at this
      omega
    · rintro rfl
      exact List.drop_length
  have HLEN := Lib.hid hlen
  clear hlen
  cases ok with
  | true =>
    by_cases hl0 : a' = l.length
    · have HT := Lib.hid (show readOp l = (⟨k, [a1, a2, a3, a4, a5, a6, a7, a8], s⟩, true) by rw [HR0.out, if_pos ⟨rfl, HLEN.out.2 hl0⟩])
      subst hl0
      go_upto_region 5 with (fail)
      obtain ⟨h0, h1, h2, h3, h4, h5, h6, h7, h8, h9⟩ := op_conj hO
      obtain ⟨i0, i1, i2, i3, i4, i5, i6, i7, i8, i9⟩ := op_conj (k := 0) (a := 0) (b := 0) (c := 0) (d := 0) (e := 0) (f := 0) (g := 0) (i := 0) (s := []) hC3
      have hfr := hC3.free
      have HC3 := Lib.hid hC3
      have HB3 := Lib.hid hb3
      clear hC3 hb3 hO
      go_wp2_with fail
      have HC := Lib.hid (HC3.out.stored (vs := opCells ⟨k, [a1, a2, a3, a4, a5, a6, a7, a8], s⟩) rfl)
      have HG := Lib.hid (grown_below HB3.out (grown_setCells w.heap.size (opCells ⟨k, [a1, a2, a3, a4, a5, a6, a7, a8], s⟩) 0 w3) (Nat.le_refl _))
      change bodyPost _ _ _ _ _ (w3.setCells w.heap.size 0 (opCells ⟨k, [a1, a2, a3, a4, a5, a6, a7, a8], s⟩))
      generalize w3.setCells w.heap.size 0 (opCells ⟨k, [a1, a2, a3, a4, a5, a6, a7, a8], s⟩) = w5 at *
      clear i0 i1 i2 i3 i4 i5 i6 i7 i8 i9 h0 h1 h2 h3 h4 h5 h6 h7 h8 h9
      obtain ⟨h0, h1, h2, h3, h4, h5, h6, h7, h8, h9⟩ := op_conj HC.out
      exact bodyPost_ret (v := .tuple #[.agg (opCells ⟨k, [a1, a2, a3, a4, a5, a6, a7, a8], s⟩).toArray, .bool true]) (by simp [results, Try.results13, go_sem, h0, h1, h2, h3, h4, h5, h6, h7, h8, h9] <;> rfl) rfl ⟨by (rw [HT.out]; try rfl), HG.out⟩
    · have HT := Lib.hid (show readOp l = (opZero, false) by rw [HR0.out, if_neg (fun h => hl0 (HLEN.out.1 h.2))])
      have hz0 : ((a' : Int) == l.length) = false := by rw [beq_eq_false_iff_ne]; omega
      have hz1 : ((a' : Int) != l.length) = true := by rw [bne_iff_ne]; omega
      clear hl0
      go_upto_region 4 with (fail)
      obtain ⟨i0, i1, i2, i3, i4, i5, i6, i7, i8, i9⟩ := op_conj (k := 0) (a := 0) (b := 0) (c := 0) (d := 0) (e := 0) (f := 0) (g := 0) (i := 0) (s := []) hC3
      have hfr := hC3.free
      have HC3 := Lib.hid hC3
      have HB3 := Lib.hid hb3
      clear hC3 hb3 hO
      go_wp2_with fail
      have HC := Lib.hid (HC3.out.stored (vs := opCells opZero) rfl)
      have HG := Lib.hid (grown_below HB3.out (grown_setCells w.heap.size (opCells opZero) 0 w3) (Nat.le_refl _))
      change bodyPost _ _ _ _ _ (w3.setCells w.heap.size 0 (opCells opZero))
      generalize w3.setCells w.heap.size 0 (opCells opZero) = w5 at *
      clear i0 i1 i2 i3 i4 i5 i6 i7 i8 i9
      obtain ⟨h0, h1, h2, h3, h4, h5, h6, h7, h8, h9⟩ := op_conj HC.out
      exact bodyPost_ret (v := .tuple #[.agg (opCells opZero).toArray, .bool false]) (by simp [results, Try.results13, go_sem, h0, h1, h2, h3, h4, h5, h6, h7, h8, h9] <;> rfl) rfl ⟨by (rw [HT.out]; try rfl), HG.out⟩
  | false =>
    have HT := Lib.hid (show readOp l = (opZero, false) by rw [HR0.out, if_neg (by simp)])
    go_upto_region 4 with (fail)
    obtain ⟨i0, i1, i2, i3, i4, i5, i6, i7, i8, i9⟩ := op_conj (k := 0) (a := 0) (b := 0) (c := 0) (d := 0) (e := 0) (f := 0) (g := 0) (i := 0) (s := []) hC3
    have hfr := hC3.free
    have HC3 := Lib.hid hC3
    have HB3 := Lib.hid hb3
    clear hC3 hb3 hO
    go_wp2_with fail
    have HC := Lib.hid (HC3.out.stored (vs := opCells opZero) rfl)
    have HG := Lib.hid (grown_below HB3.out (grown_setCells w.heap.size (opCells opZero) 0 w3) (Nat.le_refl _))
    change bodyPost _ _ _ _ _ (w3.setCells w.heap.size 0 (opCells opZero))
    generalize w3.setCells w.heap.size 0 (opCells opZero) = w5 at *
    clear i0 i1 i2 i3 i4 i5 i6 i7 i8 i9
    obtain ⟨h0, h1, h2, h3, h4, h5, h6, h7, h8, h9⟩ := op_conj HC.out
    exact bodyPost_ret (v := .tuple #[.agg (opCells opZero).toArray, .bool false]) (by simp [results, Try.results13, go_sem, h0, h1, h2, h3, h4, h5, h6, h7, h8, h9] <;> rfl) rfl ⟨by (rw [HT.out]; try rfl), HG.out⟩
end Go.Proofs.Ytnfgojecgcienaa
