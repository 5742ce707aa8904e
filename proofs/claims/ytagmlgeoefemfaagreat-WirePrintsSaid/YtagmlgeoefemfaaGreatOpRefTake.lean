/- The contracts of the document's reader of operations. -/
import Derived.Test.YtagmlgeoefemfaaGreatKOp2
import Derived.Test.YtagmlgeoefemfaaGreatOpRefMay
import Derived.Test.YtagmlgeoefemfaaGreatKCodec
namespace Go.Proofs.YtagmlgeoefemfaaGreat
open Go.RowKit Go.ChangeShapes Go.WideShapes Go.Joins
set_option linter.unusedVariables false

/-- One number more is read. -/
theorem rdI_next {k : Nat} {L l' : List UInt8} {E e' : Int} {vs : List Int} (h : rdI 8 L E = (vs ++ (rdI (k + 1) l' e').1, (rdI (k + 1) l' e').2)) :
    rdI 8 L E = ((vs ++ [zag (rdU l' e').1]) ++ (rdI k (rdU l' e').2.1 (rdU l' e').2.2).1, (rdI k (rdU l' e').2.1 (rdU l' e').2.2).2) := by
  rw [h, rdI, List.append_assoc]
  rfl

/-- What is taken: the operation, whether it is one, what is left, the error. -/
def qTake (l : List UInt8) (e : Int) : OpV × Bool × List UInt8 × Int :=
  let r := rawOp l e
  if r.2.2 = 0 ∧ mayOp r.1 = true then (r.1, true, r.2) else (opZero, false, r.2)

set_option maxRecDepth 100000 in
set_option maxHeartbeats 4000000 in
theorem qotake_any {w : World} {b : Nat} {S : List UInt8} {a : Nat} {e : Int} (h : RfAt w b S a e) (hS : S.length ≤ 1000000) (ha : a ≤ S.length) :
    Calls Tryz.prog 50 #[.pointer (some ⟨b, 0, none⟩)] w fun en w' => en = .returned (.tuple #[.agg (opCells (qTake (S.drop a) e).1).toArray, .bool (qTake (S.drop a) e).2.1]) ∧
      (∃ a', a' ≤ S.length ∧ S.drop a' = (qTake (S.drop a) e).2.2.1 ∧ RfAt w' b S a' (qTake (S.drop a) e).2.2.2) ∧ w.grownBy w' (some b) := by
  go_enter Tryz.func50, Tryz.ntmps50
  go_wp2_with fail
  have hC : BlkAt (w.alloc (.cells (opCells opZero).toArray 25)) w.heap.size 25 (opCells opZero) := BlkAt.new _ _ _
  have hF0 := h.below ((Below.refl _ _).alloc (Nat.le_refl _) (.cells (opCells opZero).toArray 25))
  have g0 := grown_alloc (World.grownBy.refl w (some b)) (.cells (opCells opZero).toArray 25)
  have hCb : w.heap.size ≠ b := by have := h.lt; omega
  change Calls _ _ _ (w.alloc (.cells (opCells opZero).toArray 25)) _
  generalize w.alloc (.cells (opCells opZero).toArray 25) = w0 at *
  clear h
  refine (qbyte_any (by exact hF0) hS ha).mono ?_
  rintro en w1 ⟨rfl, ⟨b0, hb0, hd0, hF1⟩, g1⟩
  have hC1 := hC.grown g1 hCb
  have G1 := g0.trans g1
  have hk := rdB_fit (S.drop a) e
  have HRAW := Lib.hid (show rawOp (S.drop a) e = (⟨(rdB (S.drop a) e).1, (rdI 8 (rdB (S.drop a) e).2.1 (rdB (S.drop a) e).2.2).1, (rdS (rdI 8 (rdB (S.drop a) e).2.1 (rdB (S.drop a) e).2.2).2.1 (rdI 8 (rdB (S.drop a) e).2.1 (rdB (S.drop a) e).2.2).2.2 256).1⟩, (rdS (rdI 8 (rdB (S.drop a) e).2.1 (rdB (S.drop a) e).2.2).2.1 (rdI 8 (rdB (S.drop a) e).2.1 (rdB (S.drop a) e).2.2).2.2 256).2) from rfl)
  have HRO := Lib.hid (rawOp_ok (S.drop a) e (by rw [List.length_drop]; omega)).1
  rw [HRAW.out] at HRO
  rw [← hd0] at HRAW HRO
  generalize (rdB (S.drop a) e).1 = K at *
  generalize (rdB (S.drop a) e).2.2 = E at *
  have hk : (K : Int) < 256 := by omega
  clear hC hF0 g0 g1 hd0
  have HF1 := Lib.hid hF1
  clear hF1
  go_upto_region 2 with (fail)
  have hO : BlkAt (w1.alloc (.cells (opCells ⟨K, [0, 0, 0, 0, 0, 0, 0, 0], []⟩).toArray 25)) w1.heap.size 25 (opCells ⟨K, [0, 0, 0, 0, 0, 0, 0, 0], []⟩) := BlkAt.new _ _ _
  have hF := HF1.out.below ((Below.refl _ _).alloc (Nat.le_refl _) (.cells (opCells ⟨K, [0, 0, 0, 0, 0, 0, 0, 0], []⟩).toArray 25))
  have hCC := hC1.alloc (.cells (opCells ⟨K, [0, 0, 0, 0, 0, 0, 0, 0], []⟩).toArray 25)
  have hG := grown_alloc G1 (.cells (opCells ⟨K, [0, 0, 0, 0, 0, 0, 0, 0], []⟩).toArray 25)
  have hOb : w1.heap.size ≠ b := by have := HF1.out.lt; omega
  have hOC : w1.heap.size ≠ w.heap.size := by have := hC1.lt; omega
  have hOw : w.heap.size ≤ w1.heap.size := G1.size
  change Code.wp _ _ _ _ (w1.alloc (.cells (opCells ⟨K, [0, 0, 0, 0, 0, 0, 0, 0], []⟩).toArray 25))
  generalize w1.alloc (.cells (opCells ⟨K, [0, 0, 0, 0, 0, 0, 0, 0], []⟩).toArray 25) = v0 at *
  generalize w1.heap.size = O at *
  clear hC1 G1 HF1
  have HI := Lib.hid (show rdI 8 (S.drop b0) E = ([] ++ (rdI 8 (S.drop b0) E).1, (rdI 8 (S.drop b0) E).2) from rfl)
  have HF := Lib.hid hF
  have HO := Lib.hid hO
  have HC := Lib.hid hCC
  have HG := Lib.hid hG
  clear hF hO hCC hG
  go_wp2_with fail
  refine (qintr_any (by exact HF.out) hS hb0).mono ?_
  rintro en u1 ⟨rfl, ⟨b1, hb1, hd1, hF⟩, g⟩
  have HI := Lib.hid (rdI_next HI.out)
  rw [← hd1] at HI
  have hO : BlkAt u1 O 25 (opCells ⟨K, [0, 0, 0, 0, 0, 0, 0, 0], []⟩) := HO.out.grown g hOb
  have hC : BlkAt u1 w.heap.size 25 (opCells opZero) := HC.out.grown g hCb
  have hG : w.grownBy u1 (some b) := HG.out.trans g
  generalize zag (rdU (S.drop b0) E).1 = x1 at *
  generalize (rdU (S.drop b0) E).2.2 = e1 at *
  have hc : u1.cell? ⟨O, 1, none⟩ = some (.int .i64 0) := hO.cell rfl
  have hf := hO.free 1
  have HO := Lib.hid (show BlkAt (u1.setCell ⟨O, 1, none⟩ (.int .i64 x1)) O 25 (opCells ⟨K, [x1, 0, 0, 0, 0, 0, 0, 0], []⟩) from hO.set 1 (.int .i64 x1))
  have HC := Lib.hid (hC.grown (grown_setCell u1 O 1 (.int .i64 x1)) hOC.symm)
  have HG := Lib.hid (grown_far hG (grown_setCell u1 O 1 (.int .i64 x1)) hOw)
  have HF := Lib.hid (hF.grown (grown_setCell u1 O 1 (.int .i64 x1)) hOb.symm)
  clear hO hC hG hF g hd1
  go_upto_region 3 with (fail)
  clear hc hf
  generalize u1.setCell ⟨O, 1, none⟩ (.int .i64 x1) = v1 at *
  go_wp2_with fail
  refine (qintr_any (by exact HF.out) hS hb1).mono ?_
  rintro en u2 ⟨rfl, ⟨b2, hb2, hd2, hF⟩, g⟩
  have HI := Lib.hid (rdI_next HI.out)
  rw [← hd2] at HI
  have hO : BlkAt u2 O 25 (opCells ⟨K, [x1, 0, 0, 0, 0, 0, 0, 0], []⟩) := HO.out.grown g hOb
  have hC : BlkAt u2 w.heap.size 25 (opCells opZero) := HC.out.grown g hCb
  have hG : w.grownBy u2 (some b) := HG.out.trans g
  generalize zag (rdU (S.drop b1) e1).1 = x2 at *
  generalize (rdU (S.drop b1) e1).2.2 = e2 at *
  have hc : u2.cell? ⟨O, 2, none⟩ = some (.int .i64 0) := hO.cell rfl
  have hf := hO.free 2
  have HO := Lib.hid (show BlkAt (u2.setCell ⟨O, 2, none⟩ (.int .i64 x2)) O 25 (opCells ⟨K, [x1, x2, 0, 0, 0, 0, 0, 0], []⟩) from hO.set 2 (.int .i64 x2))
  have HC := Lib.hid (hC.grown (grown_setCell u2 O 2 (.int .i64 x2)) hOC.symm)
  have HG := Lib.hid (grown_far hG (grown_setCell u2 O 2 (.int .i64 x2)) hOw)
  have HF := Lib.hid (hF.grown (grown_setCell u2 O 2 (.int .i64 x2)) hOb.symm)
  clear hO hC hG hF g hd2
  go_upto_region 4 with (fail)
  clear hc hf
  generalize u2.setCell ⟨O, 2, none⟩ (.int .i64 x2) = v2 at *
  go_wp2_with fail
  refine (qintr_any (by exact HF.out) hS hb2).mono ?_
  rintro en u3 ⟨rfl, ⟨b3, hb3, hd3, hF⟩, g⟩
  have HI := Lib.hid (rdI_next HI.out)
  rw [← hd3] at HI
  have hO : BlkAt u3 O 25 (opCells ⟨K, [x1, x2, 0, 0, 0, 0, 0, 0], []⟩) := HO.out.grown g hOb
  have hC : BlkAt u3 w.heap.size 25 (opCells opZero) := HC.out.grown g hCb
  have hG : w.grownBy u3 (some b) := HG.out.trans g
  generalize zag (rdU (S.drop b2) e2).1 = x3 at *
  generalize (rdU (S.drop b2) e2).2.2 = e3 at *
  have hc : u3.cell? ⟨O, 3, none⟩ = some (.int .i64 0) := hO.cell rfl
  have hf := hO.free 3
  have HO := Lib.hid (show BlkAt (u3.setCell ⟨O, 3, none⟩ (.int .i64 x3)) O 25 (opCells ⟨K, [x1, x2, x3, 0, 0, 0, 0, 0], []⟩) from hO.set 3 (.int .i64 x3))
  have HC := Lib.hid (hC.grown (grown_setCell u3 O 3 (.int .i64 x3)) hOC.symm)
  have HG := Lib.hid (grown_far hG (grown_setCell u3 O 3 (.int .i64 x3)) hOw)
  have HF := Lib.hid (hF.grown (grown_setCell u3 O 3 (.int .i64 x3)) hOb.symm)
  clear hO hC hG hF g hd3
  go_upto_region 5 with (fail)
  clear hc hf
  generalize u3.setCell ⟨O, 3, none⟩ (.int .i64 x3) = v3 at *
  go_wp2_with fail
  refine (qintr_any (by exact HF.out) hS hb3).mono ?_
  rintro en u4 ⟨rfl, ⟨b4, hb4, hd4, hF⟩, g⟩
  have HI := Lib.hid (rdI_next HI.out)
  rw [← hd4] at HI
  have hO : BlkAt u4 O 25 (opCells ⟨K, [x1, x2, x3, 0, 0, 0, 0, 0], []⟩) := HO.out.grown g hOb
  have hC : BlkAt u4 w.heap.size 25 (opCells opZero) := HC.out.grown g hCb
  have hG : w.grownBy u4 (some b) := HG.out.trans g
  generalize zag (rdU (S.drop b3) e3).1 = x4 at *
  generalize (rdU (S.drop b3) e3).2.2 = e4 at *
  have hc : u4.cell? ⟨O, 4, none⟩ = some (.int .i64 0) := hO.cell rfl
  have hf := hO.free 4
  have HO := Lib.hid (show BlkAt (u4.setCell ⟨O, 4, none⟩ (.int .i64 x4)) O 25 (opCells ⟨K, [x1, x2, x3, x4, 0, 0, 0, 0], []⟩) from hO.set 4 (.int .i64 x4))
  have HC := Lib.hid (hC.grown (grown_setCell u4 O 4 (.int .i64 x4)) hOC.symm)
  have HG := Lib.hid (grown_far hG (grown_setCell u4 O 4 (.int .i64 x4)) hOw)
  have HF := Lib.hid (hF.grown (grown_setCell u4 O 4 (.int .i64 x4)) hOb.symm)
  clear hO hC hG hF g hd4
  go_upto_region 6 with (fail)
  clear hc hf
  generalize u4.setCell ⟨O, 4, none⟩ (.int .i64 x4) = v4 at *
  go_wp2_with fail
  refine (qintr_any (by exact HF.out) hS hb4).mono ?_
  rintro en u5 ⟨rfl, ⟨b5, hb5, hd5, hF⟩, g⟩
  have HI := Lib.hid (rdI_next HI.out)
  rw [← hd5] at HI
  have hO : BlkAt u5 O 25 (opCells ⟨K, [x1, x2, x3, x4, 0, 0, 0, 0], []⟩) := HO.out.grown g hOb
  have hC : BlkAt u5 w.heap.size 25 (opCells opZero) := HC.out.grown g hCb
  have hG : w.grownBy u5 (some b) := HG.out.trans g
  generalize zag (rdU (S.drop b4) e4).1 = x5 at *
  generalize (rdU (S.drop b4) e4).2.2 = e5 at *
  have hc : u5.cell? ⟨O, 5, none⟩ = some (.int .i64 0) := hO.cell rfl
  have hf := hO.free 5
  have HO := Lib.hid (show BlkAt (u5.setCell ⟨O, 5, none⟩ (.int .i64 x5)) O 25 (opCells ⟨K, [x1, x2, x3, x4, x5, 0, 0, 0], []⟩) from hO.set 5 (.int .i64 x5))
  have HC := Lib.hid (hC.grown (grown_setCell u5 O 5 (.int .i64 x5)) hOC.symm)
  have HG := Lib.hid (grown_far hG (grown_setCell u5 O 5 (.int .i64 x5)) hOw)
  have HF := Lib.hid (hF.grown (grown_setCell u5 O 5 (.int .i64 x5)) hOb.symm)
  clear hO hC hG hF g hd5
  go_upto_region 7 with (fail)
  clear hc hf
  generalize u5.setCell ⟨O, 5, none⟩ (.int .i64 x5) = v5 at *
  go_wp2_with fail
  refine (qintr_any (by exact HF.out) hS hb5).mono ?_
  rintro en u6 ⟨rfl, ⟨b6, hb6, hd6, hF⟩, g⟩
  have HI := Lib.hid (rdI_next HI.out)
  rw [← hd6] at HI
  have hO : BlkAt u6 O 25 (opCells ⟨K, [x1, x2, x3, x4, x5, 0, 0, 0], []⟩) := HO.out.grown g hOb
  have hC : BlkAt u6 w.heap.size 25 (opCells opZero) := HC.out.grown g hCb
  have hG : w.grownBy u6 (some b) := HG.out.trans g
  generalize zag (rdU (S.drop b5) e5).1 = x6 at *
  generalize (rdU (S.drop b5) e5).2.2 = e6 at *
  have hc : u6.cell? ⟨O, 6, none⟩ = some (.int .i64 0) := hO.cell rfl
  have hf := hO.free 6
  have HO := Lib.hid (show BlkAt (u6.setCell ⟨O, 6, none⟩ (.int .i64 x6)) O 25 (opCells ⟨K, [x1, x2, x3, x4, x5, x6, 0, 0], []⟩) from hO.set 6 (.int .i64 x6))
  have HC := Lib.hid (hC.grown (grown_setCell u6 O 6 (.int .i64 x6)) hOC.symm)
  have HG := Lib.hid (grown_far hG (grown_setCell u6 O 6 (.int .i64 x6)) hOw)
  have HF := Lib.hid (hF.grown (grown_setCell u6 O 6 (.int .i64 x6)) hOb.symm)
  clear hO hC hG hF g hd6
  go_upto_region 8 with (fail)
  clear hc hf
  generalize u6.setCell ⟨O, 6, none⟩ (.int .i64 x6) = v6 at *
  go_wp2_with fail
  refine (qintr_any (by exact HF.out) hS hb6).mono ?_
  rintro en u7 ⟨rfl, ⟨b7, hb7, hd7, hF⟩, g⟩
  have HI := Lib.hid (rdI_next HI.out)
  rw [← hd7] at HI
  have hO : BlkAt u7 O 25 (opCells ⟨K, [x1, x2, x3, x4, x5, x6, 0, 0], []⟩) := HO.out.grown g hOb
  have hC : BlkAt u7 w.heap.size 25 (opCells opZero) := HC.out.grown g hCb
  have hG : w.grownBy u7 (some b) := HG.out.trans g
  generalize zag (rdU (S.drop b6) e6).1 = x7 at *
  generalize (rdU (S.drop b6) e6).2.2 = e7 at *
  have hc : u7.cell? ⟨O, 7, none⟩ = some (.int .i64 0) := hO.cell rfl
  have hf := hO.free 7
  have HO := Lib.hid (show BlkAt (u7.setCell ⟨O, 7, none⟩ (.int .i64 x7)) O 25 (opCells ⟨K, [x1, x2, x3, x4, x5, x6, x7, 0], []⟩) from hO.set 7 (.int .i64 x7))
  have HC := Lib.hid (hC.grown (grown_setCell u7 O 7 (.int .i64 x7)) hOC.symm)
  have HG := Lib.hid (grown_far hG (grown_setCell u7 O 7 (.int .i64 x7)) hOw)
  have HF := Lib.hid (hF.grown (grown_setCell u7 O 7 (.int .i64 x7)) hOb.symm)
  clear hO hC hG hF g hd7
  go_upto_region 9 with (fail)
  clear hc hf
  generalize u7.setCell ⟨O, 7, none⟩ (.int .i64 x7) = v7 at *
  go_wp2_with fail
  refine (qintr_any (by exact HF.out) hS hb7).mono ?_
  rintro en u8 ⟨rfl, ⟨b8, hb8, hd8, hF⟩, g⟩
  have HI := Lib.hid (rdI_next HI.out)
  rw [← hd8] at HI
  have hO : BlkAt u8 O 25 (opCells ⟨K, [x1, x2, x3, x4, x5, x6, x7, 0], []⟩) := HO.out.grown g hOb
  have hC : BlkAt u8 w.heap.size 25 (opCells opZero) := HC.out.grown g hCb
  have hG : w.grownBy u8 (some b) := HG.out.trans g
  generalize zag (rdU (S.drop b7) e7).1 = x8 at *
  generalize (rdU (S.drop b7) e7).2.2 = e8 at *
  have hc : u8.cell? ⟨O, 8, none⟩ = some (.int .i64 0) := hO.cell rfl
  have hf := hO.free 8
  have HO := Lib.hid (show BlkAt (u8.setCell ⟨O, 8, none⟩ (.int .i64 x8)) O 25 (opCells ⟨K, [x1, x2, x3, x4, x5, x6, x7, x8], []⟩) from hO.set 8 (.int .i64 x8))
  have HC := Lib.hid (hC.grown (grown_setCell u8 O 8 (.int .i64 x8)) hOC.symm)
  have HG := Lib.hid (grown_far hG (grown_setCell u8 O 8 (.int .i64 x8)) hOw)
  have HF := Lib.hid (hF.grown (grown_setCell u8 O 8 (.int .i64 x8)) hOb.symm)
  clear hO hC hG hF g hd8
  go_upto_region 10 with (fail)
  clear hc hf
  generalize u8.setCell ⟨O, 8, none⟩ (.int .i64 x8) = v8 at *
  have HI := Lib.hid (show rdI 8 (S.drop b0) E = ([x1, x2, x3, x4, x5, x6, x7, x8], S.drop b8, e8) by rw [HI.out]; rfl)
  rw [HI.out] at HRAW HRO
  simp only at HRAW HRO
  go_wp2_with fail
  refine (qstrr_any (by exact HF.out) hS hb8 (W64.mk (by omega) (by omega))).mono ?_
  rintro en u9 ⟨rfl, ⟨b9, hb9, hd9, hF⟩, g⟩
  have hO : BlkAt u9 O 25 (opCells ⟨K, [x1, x2, x3, x4, x5, x6, x7, x8], []⟩) := HO.out.grown g hOb
  have hC : BlkAt u9 w.heap.size 25 (opCells opZero) := HC.out.grown g hCb
  have hG : w.grownBy u9 (some b) := HG.out.trans g
  generalize rdS (S.drop b8) e8 256 = R at *
  obtain ⟨s, l9, e9⟩ := R
  simp only at HRAW HRO hd9 hF ⊢
  have hc : u9.cell? ⟨O, 9, none⟩ = some (.string ⟨#[]⟩) := hO.cell rfl
  have hf := hO.free 9
  have HO := Lib.hid (show BlkAt (u9.setCell ⟨O, 9, none⟩ (.string ⟨s.toArray⟩)) O 25 (opCells ⟨K, [x1, x2, x3, x4, x5, x6, x7, x8], s⟩) from hO.set 9 (.string ⟨s.toArray⟩))
  have HC := Lib.hid (hC.grown (grown_setCell u9 O 9 (.string ⟨s.toArray⟩)) hOC.symm)
  have HG := Lib.hid (grown_far hG (grown_setCell u9 O 9 (.string ⟨s.toArray⟩)) hOw)
  have HF := Lib.hid (hF.grown (grown_setCell u9 O 9 (.string ⟨s.toArray⟩)) hOb.symm)
  have HD := Lib.hid hd9
  clear hO hC hG hF g hd9
  go_upto_region 11 with (fail)
  clear hc hf
  generalize u9.setCell ⟨O, 9, none⟩ (.string ⟨s.toArray⟩) = v9 at *
  have hc2 := HF.out.cell2
  by_cases h0 : e9 = 0
  · subst h0
    obtain ⟨h0, h1, h2, h3, h4, h5, h6, h7, h8, h9⟩ := op_conj HO.out
    go_wp2_with fail
    refine (qmay_any (o := ⟨K, [x1, x2, x3, x4, x5, x6, x7, x8], s⟩) HRO.out _).mono ?_
    rintro en v10 ⟨rfl, b10⟩
    have hO := HO.out.below b10
    have hC := HC.out.below b10
    have hG := HG.out.trans (below_any b10)
    have hF := HF.out.below b10
    clear h0 h1 h2 h3 h4 h5 h6 h7 h8 h9
    by_cases hm : mayOp ⟨K, [x1, x2, x3, x4, x5, x6, x7, x8], s⟩ = true
    · have HT := Lib.hid (show qTake (S.drop a) e = (⟨K, [x1, x2, x3, x4, x5, x6, x7, x8], s⟩, true, l9, 0) by
        rw [qTake, HRAW.out]
        simp only [hm, and_self, if_true])
      rw [hm]
      clear hm
      go_upto_region 13 with (fail)
      obtain ⟨h0, h1, h2, h3, h4, h5, h6, h7, h8, h9⟩ := op_conj hO
      obtain ⟨i0, i1, i2, i3, i4, i5, i6, i7, i8, i9⟩ := op_conj (k := 0) (a := 0) (b := 0) (c := 0) (d := 0) (e := 0) (f := 0) (g := 0) (i := 0) (s := []) hC
      have hfr := hC.free
      have HC3 := Lib.hid hC
      have HG3 := Lib.hid hG
      have HF3 := Lib.hid hF
      clear hC hG hF hO HO HC HG HF
      go_wp2_with fail
      change bodyPost _ _ _ _ _ (v10.setCells w.heap.size 0 (opCells ⟨K, [x1, x2, x3, x4, x5, x6, x7, x8], s⟩))
      have HC := HC3.out.stored (vs := opCells ⟨K, [x1, x2, x3, x4, x5, x6, x7, x8], s⟩) rfl
      have HG := grown_far HG3.out (grown_setCells w.heap.size (opCells ⟨K, [x1, x2, x3, x4, x5, x6, x7, x8], s⟩) 0 v10) (Nat.le_refl _)
      have HF := HF3.out.grown (grown_setCells w.heap.size (opCells ⟨K, [x1, x2, x3, x4, x5, x6, x7, x8], s⟩) 0 v10) hCb.symm
      generalize v10.setCells w.heap.size 0 (opCells ⟨K, [x1, x2, x3, x4, x5, x6, x7, x8], s⟩) = v11 at *
      clear i0 i1 i2 i3 i4 i5 i6 i7 i8 i9 h0 h1 h2 h3 h4 h5 h6 h7 h8 h9
      obtain ⟨h0, h1, h2, h3, h4, h5, h6, h7, h8, h9⟩ := op_conj HC
      exact bodyPost_ret (v := .tuple #[.agg (opCells ⟨K, [x1, x2, x3, x4, x5, x6, x7, x8], s⟩).toArray, .bool true]) (by simp [results, Tryz.results50, go_sem, h0, h1, h2, h3, h4, h5, h6, h7, h8, h9] <;> rfl) rfl ⟨by (rw [HT.out]; try rfl), ⟨b9, hb9, by rw [HT.out]; exact HD.out, by rw [HT.out]; exact HF⟩, HG⟩
    · have hm : mayOp ⟨K, [x1, x2, x3, x4, x5, x6, x7, x8], s⟩ = false := by simpa using hm
      have HT := Lib.hid (show qTake (S.drop a) e = (opZero, false, l9, 0) by
        rw [qTake, HRAW.out]
        simp only [hm, Bool.false_eq_true, and_false, if_false])
      rw [hm]
      clear hm
      go_upto_region 12 with (fail)
      obtain ⟨i0, i1, i2, i3, i4, i5, i6, i7, i8, i9⟩ := op_conj (k := 0) (a := 0) (b := 0) (c := 0) (d := 0) (e := 0) (f := 0) (g := 0) (i := 0) (s := []) hC
      have hfr := hC.free
      have HC3 := Lib.hid hC
      have HG3 := Lib.hid hG
      have HF3 := Lib.hid hF
      clear hC hG hF HO HC HG HF
      go_wp2_with fail
      change bodyPost _ _ _ _ _ (v10.setCells w.heap.size 0 (opCells opZero))
      have HC := HC3.out.stored (vs := opCells opZero) rfl
      have HG := grown_far HG3.out (grown_setCells w.heap.size (opCells opZero) 0 v10) (Nat.le_refl _)
      have HF := HF3.out.grown (grown_setCells w.heap.size (opCells opZero) 0 v10) hCb.symm
      generalize v10.setCells w.heap.size 0 (opCells opZero) = v11 at *
      clear i0 i1 i2 i3 i4 i5 i6 i7 i8 i9
      obtain ⟨h0, h1, h2, h3, h4, h5, h6, h7, h8, h9⟩ := op_conj HC
      exact bodyPost_ret (v := .tuple #[.agg (opCells opZero).toArray, .bool false]) (by simp [results, Tryz.results50, go_sem, h0, h1, h2, h3, h4, h5, h6, h7, h8, h9] <;> rfl) rfl ⟨by (rw [HT.out]; try rfl), ⟨b9, hb9, by rw [HT.out]; exact HD.out, by rw [HT.out]; exact HF⟩, HG⟩
  · have HT := Lib.hid (show qTake (S.drop a) e = (opZero, false, l9, e9) by
      rw [qTake, HRAW.out]
      simp only [h0, false_and, if_false])
    have hz0 : (e9 == 0) = false := by simpa using h0
    have hz1 : (e9 != 0) = true := by simpa using h0
    clear h0
    go_upto_region 12 with (fail)
    have hC := HC.out
    have hG := HG.out
    have hF := HF.out
    obtain ⟨v10, rfl⟩ : ∃ x : World, x = v9 := ⟨_, rfl⟩
    obtain ⟨i0, i1, i2, i3, i4, i5, i6, i7, i8, i9⟩ := op_conj (k := 0) (a := 0) (b := 0) (c := 0) (d := 0) (e := 0) (f := 0) (g := 0) (i := 0) (s := []) hC
    have hfr := hC.free
    have HC3 := Lib.hid hC
    have HG3 := Lib.hid hG
    have HF3 := Lib.hid hF
    clear hC hG hF HO HC HG HF
    go_wp2_with fail
    change bodyPost _ _ _ _ _ (v10.setCells w.heap.size 0 (opCells opZero))
    have HC := HC3.out.stored (vs := opCells opZero) rfl
    have HG := grown_far HG3.out (grown_setCells w.heap.size (opCells opZero) 0 v10) (Nat.le_refl _)
    have HF := HF3.out.grown (grown_setCells w.heap.size (opCells opZero) 0 v10) hCb.symm
    generalize v10.setCells w.heap.size 0 (opCells opZero) = v11 at *
    clear i0 i1 i2 i3 i4 i5 i6 i7 i8 i9
    obtain ⟨h0, h1, h2, h3, h4, h5, h6, h7, h8, h9⟩ := op_conj HC
    exact bodyPost_ret (v := .tuple #[.agg (opCells opZero).toArray, .bool false]) (by simp [results, Tryz.results50, go_sem, h0, h1, h2, h3, h4, h5, h6, h7, h8, h9] <;> rfl) rfl ⟨by (rw [HT.out]; try rfl), ⟨b9, hb9, by rw [HT.out]; exact HD.out, by rw [HT.out]; exact HF⟩, HG⟩
end Go.Proofs.YtagmlgeoefemfaaGreat
