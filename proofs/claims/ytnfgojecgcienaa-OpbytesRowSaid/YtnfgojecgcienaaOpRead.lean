/- The contract of Read: the operation that bytes are. -/
import Derived.Test.YtnfgojecgcienaaOpTake
namespace Go.Proofs.Ytnfgojecgcienaa
open Go.RowKit Go.ChangeShapes Go.WideShapes Go.Joins
set_option linter.unusedVariables false

theorem takeOp_ok (l : List UInt8) (e : Int) (hl : l.length ≤ 1000000) : OpOk (takeOp l e).1 ∧ (takeOp l e).2.1.length ≤ l.length := by
  have h := rawOp_ok l e hl
  unfold takeOp
  refine ⟨?_, h.2⟩
  simp only
  generalize (if mayOp (rawOp l e).1 = true then (rawOp l e).2.2 else fst_ (rawOp l e).2.2 3) = q
  by_cases hq : q = 0
  · rw [if_pos hq]; exact h.1
  · rw [if_neg hq]; exact opZero_ok

theorem op_lit (k a b c d e f g i : Int) (s : List UInt8) : (opCells ⟨k, [a, b, c, d, e, f, g, i], s⟩).toArray = #[.int .i64 k, .int .i64 a, .int .i64 b, .int .i64 c, .int .i64 d, .int .i64 e, .int .i64 f, .int .i64 g, .int .i64 i, .string ⟨s.toArray⟩] := rfl

/-- The error of a read. -/
def rdErr (b : Bool) : Int := if b = true then 0 else 3

set_option maxRecDepth 100000 in
set_option maxHeartbeats 1000000 in
theorem oread_any (l : List UInt8) (hl : l.length ≤ 1000000) (w : World) :
    Calls Try.prog 10 #[.string ⟨l.toArray⟩] w fun en w' => en = .returned (.tuple #[.agg (opCells (readOp l).1).toArray, .int .i64 (rdErr (readOp l).2)]) ∧ Below w.heap.size w w' := by
  have hok := takeOp_ok l 0 hl
  have HR0 := Lib.hid (show readOp l = if (takeOp l 0).2.2 = 0 ∧ (takeOp l 0).2.1 = [] then ((takeOp l 0).1, true) else (opZero, false) from rfl)
  go_enter Try.func10, Try.ntmps10
  go_wp2_with fail
  have hC : BlkAt (w.alloc (.cells (opCells opZero).toArray 23)) w.heap.size 23 (opCells opZero) := BlkAt.new _ _ _
  have hb0 := (Below.refl w.heap.size w).alloc (Nat.le_refl _) (.cells (opCells opZero).toArray 23)
  change Calls _ _ _ (w.alloc (.cells (opCells opZero).toArray 23)) _
  generalize w.alloc (.cells (opCells opZero).toArray 23) = w0 at *
  refine (read_any _ _).mono ?_
  rintro en w1 ⟨b, rfl, hR1, hb, b1⟩
  have hC1 := hC.below b1
  have hb1 := below_step hb0 b1
  have hCb : w.heap.size ≠ b := by have := hC.lt; omega
  have hbw : w.heap.size ≤ b := by have := hb0.size; omega
  clear hC hb0 b1 hb
  go_wp2_with fail
  refine (take_any (by exact hR1) hl).mono ?_
  rintro en w2 ⟨rfl, hR2, g2⟩
  have hC2 := hC1.grown g2 hCb
  have hb2 := grown_below hb1 g2 hbw
  clear hC1 hb1 hR1 g2
  generalize takeOp l 0 = R at *
  obtain ⟨⟨k, v, s⟩, l', e'⟩ := R
  obtain ⟨a1, a2, a3, a4, a5, a6, a7, a8, rfl⟩ := list8 hok.1.1
  simp only at HR0 hok hR2 ⊢
  rw [op_lit]
  go_upto_region 3 with (fail)
  have hO : BlkAt (w2.alloc (.cells (opCells ⟨k, [a1, a2, a3, a4, a5, a6, a7, a8], s⟩).toArray 23)) w2.heap.size 23 (opCells ⟨k, [a1, a2, a3, a4, a5, a6, a7, a8], s⟩) := BlkAt.new _ _ _
  have hR3 := hR2.below ((Below.refl _ _).alloc (Nat.le_refl _) (.cells (opCells ⟨k, [a1, a2, a3, a4, a5, a6, a7, a8], s⟩).toArray 23))
  have hC3 := hC2.alloc (.cells (opCells ⟨k, [a1, a2, a3, a4, a5, a6, a7, a8], s⟩).toArray 23)
  have hb3 := hb2.alloc hb2.size (.cells (opCells ⟨k, [a1, a2, a3, a4, a5, a6, a7, a8], s⟩).toArray 23)
  change Code.wp _ _ _ _ (w2.alloc (.cells (opCells ⟨k, [a1, a2, a3, a4, a5, a6, a7, a8], s⟩).toArray 23))
  generalize w2.alloc (.cells (opCells ⟨k, [a1, a2, a3, a4, a5, a6, a7, a8], s⟩).toArray 23) = w3 at *
  generalize w2.heap.size = T at *
  clear hR2 hC2 hb2
  have hll := hok.2
  by_cases h0 : e' = 0
  · subst h0
    have HL := Lib.hid (show leftOf l' 0 = l'.length by rw [leftOf, if_pos rfl])
    go_wp2_with fail
    refine (err_any (by exact hR3)).mono ?_
    rintro en w' ⟨rfl, rfl⟩
    go_wp2_with fail
    refine (left_any (by exact hR3)).mono ?_
    rintro en w' ⟨rfl, rfl⟩
    rw [HL.out]
    by_cases hl0 : l' = []
    · subst hl0
      have HT := Lib.hid (show readOp l = (⟨k, [a1, a2, a3, a4, a5, a6, a7, a8], s⟩, true) by rw [HR0.out]; simp)
      rw [show ((([] : List UInt8).length : Nat) : Int) = 0 from rfl]
      simp only
      go_upto_region 5 with (fail)
      obtain ⟨h0, h1, h2, h3, h4, h5, h6, h7, h8, h9⟩ := op_conj hO
      obtain ⟨i0, i1, i2, i3, i4, i5, i6, i7, i8, i9⟩ := op_conj (k := 0) (a := 0) (b := 0) (c := 0) (d := 0) (e := 0) (f := 0) (g := 0) (i := 0) (s := []) hC3
      have hfr := hC3.free
      have HC3 := Lib.hid hC3
      have HB3 := Lib.hid hb3
      clear hC3 hb3 hR3 hO
      go_wp2_with fail
      have HC := Lib.hid (HC3.out.stored (vs := opCells ⟨k, [a1, a2, a3, a4, a5, a6, a7, a8], s⟩) rfl)
      have HG := Lib.hid (grown_below HB3.out (grown_setCells w.heap.size (opCells ⟨k, [a1, a2, a3, a4, a5, a6, a7, a8], s⟩) 0 w3) (Nat.le_refl _))
      change bodyPost _ _ _ _ _ (w3.setCells w.heap.size 0 (opCells ⟨k, [a1, a2, a3, a4, a5, a6, a7, a8], s⟩))
      generalize w3.setCells w.heap.size 0 (opCells ⟨k, [a1, a2, a3, a4, a5, a6, a7, a8], s⟩) = w5 at *
      clear i0 i1 i2 i3 i4 i5 i6 i7 i8 i9 h0 h1 h2 h3 h4 h5 h6 h7 h8 h9
      obtain ⟨h0, h1, h2, h3, h4, h5, h6, h7, h8, h9⟩ := op_conj HC.out
      exact bodyPost_ret (v := .tuple #[.agg (opCells ⟨k, [a1, a2, a3, a4, a5, a6, a7, a8], s⟩).toArray, .int .i64 0]) (by simp [results, Try.results10, go_sem, h0, h1, h2, h3, h4, h5, h6, h7, h8, h9] <;> rfl) rfl ⟨by (rw [HT.out]; try rfl), HG.out⟩
    · have HT := Lib.hid (show readOp l = (opZero, false) by rw [HR0.out, if_neg (fun h => hl0 h.2)])
      have hpos : (0 : Int) < (l'.length : Int) := by
        have := List.length_pos_iff.2 hl0
        omega
      clear hl0
      simp only
      go_upto_region 4 with (fail)
      obtain ⟨i0, i1, i2, i3, i4, i5, i6, i7, i8, i9⟩ := op_conj (k := 0) (a := 0) (b := 0) (c := 0) (d := 0) (e := 0) (f := 0) (g := 0) (i := 0) (s := []) hC3
      have hfr := hC3.free
      have HC3 := Lib.hid hC3
      have HB3 := Lib.hid hb3
      clear hC3 hb3 hR3 hO
      go_wp2_with fail
      have HC := Lib.hid (HC3.out.stored (vs := opCells opZero) rfl)
      have HG := Lib.hid (grown_below HB3.out (grown_setCells w.heap.size (opCells opZero) 0 w3) (Nat.le_refl _))
      change bodyPost _ _ _ _ _ (w3.setCells w.heap.size 0 (opCells opZero))
      generalize w3.setCells w.heap.size 0 (opCells opZero) = w5 at *
      clear i0 i1 i2 i3 i4 i5 i6 i7 i8 i9
      obtain ⟨h0, h1, h2, h3, h4, h5, h6, h7, h8, h9⟩ := op_conj HC.out
      exact bodyPost_ret (v := .tuple #[.agg (opCells opZero).toArray, .int .i64 3]) (by simp [results, Try.results10, go_sem, h0, h1, h2, h3, h4, h5, h6, h7, h8, h9] <;> rfl) rfl ⟨by (rw [HT.out]; try rfl), HG.out⟩
  · have HT := Lib.hid (show readOp l = (opZero, false) by rw [HR0.out, if_neg (fun h => h0 h.1)])
    have hz0 : (e' == 0) = false := by simpa using h0
    have hz1 : (e' != 0) = true := by simpa using h0
    clear h0
    go_wp2_with fail
    refine (err_any (by exact hR3)).mono ?_
    rintro en w' ⟨rfl, rfl⟩
    simp only
    go_upto_region 4 with (fail)
    obtain ⟨i0, i1, i2, i3, i4, i5, i6, i7, i8, i9⟩ := op_conj (k := 0) (a := 0) (b := 0) (c := 0) (d := 0) (e := 0) (f := 0) (g := 0) (i := 0) (s := []) hC3
    have hfr := hC3.free
    have HC3 := Lib.hid hC3
    have HB3 := Lib.hid hb3
    clear hC3 hb3 hR3 hO
    go_wp2_with fail
    have HC := Lib.hid (HC3.out.stored (vs := opCells opZero) rfl)
    have HG := Lib.hid (grown_below HB3.out (grown_setCells w.heap.size (opCells opZero) 0 w3) (Nat.le_refl _))
    change bodyPost _ _ _ _ _ (w3.setCells w.heap.size 0 (opCells opZero))
    generalize w3.setCells w.heap.size 0 (opCells opZero) = w5 at *
    clear i0 i1 i2 i3 i4 i5 i6 i7 i8 i9
    obtain ⟨h0, h1, h2, h3, h4, h5, h6, h7, h8, h9⟩ := op_conj HC.out
    exact bodyPost_ret (v := .tuple #[.agg (opCells opZero).toArray, .int .i64 3]) (by simp [results, Try.results10, go_sem, h0, h1, h2, h3, h4, h5, h6, h7, h8, h9] <;> rfl) rfl ⟨by (rw [HT.out]; try rfl), HG.out⟩
end Go.Proofs.Ytnfgojecgcienaa
