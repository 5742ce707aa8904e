/- Operations that came in by value. -/
import Derived.Test.YtnaabaahfjklhaaGreatKOp1
import Derived.Deep.Slices
import Derived.Test.YtnaabaahfjklhaaGreatStrOne
namespace Go.Proofs.YtnaabaahfjklhaaGreat
open Go.RowKit Go.ChangeShapes Go.WideShapes Go.Joins Go.Deep
set_option linter.unusedVariables false

set_option maxRecDepth 100000 in
theorem list10 {l : List Value} (h : l.length = 10) : ∃ c0 c1 c2 c3 c4 c5 c6 c7 c8 c9, l = [c0, c1, c2, c3, c4, c5, c6, c7, c8, c9] := by
  match l, h with
  | [c0, c1, c2, c3, c4, c5, c6, c7, c8, c9], _ => exact ⟨c0, c1, c2, c3, c4, c5, c6, c7, c8, c9, rfl⟩

set_option maxRecDepth 100000 in
/-- Ten cells that read as an operation. -/
theorem op_of_trod {H : Type} {enc : TypeId × Value → H} {W : World} {base : Nat} {sp : Nat → Bool} {hd : Bool} {n : Nat} {cs : List Value} {x : DataW H × List MemPlace} (hl : cs.length = 10)
    (hf : DataW.trod enc Tryz.prog W base sp hd n 31 cs = some x) : ∃ o : OpV, OpOk o ∧ cs = opCells o := by
  obtain ⟨ys, n', rfl, _, _, hyl, hg⟩ := DataW.trod_struct Tryz.underlying31 hf
  obtain ⟨c0, c1, c2, c3, c4, c5, c6, c7, c8, c9, rfl⟩ := list10 hl
  have k1 : Tryz.prog.cellsOf 3 = 1 := by kernel_rfl
  have k2 : Tryz.prog.cellsOf 9 = 1 := by kernel_rfl
  have g0 := hg 0 _ rfl
  have g1 := hg 1 _ rfl
  have g2 := hg 2 _ rfl
  have g3 := hg 3 _ rfl
  have g4 := hg 4 _ rfl
  have g5 := hg 5 _ rfl
  have g6 := hg 6 _ rfl
  have g7 := hg 7 _ rfl
  have g8 := hg 8 _ rfl
  have g9 := hg 9 _ rfl
  simp [k1, k2] at g0 g1 g2 g3 g4 g5 g6 g7 g8 g9
  rw [List.getElem?_eq_getElem (by rw [hyl]; decide)] at g0 g1 g2 g3 g4 g5 g6 g7 g8 g9
  obtain ⟨z0, rfl, w0⟩ := trod_one_int g0
  obtain ⟨z1, rfl, w1⟩ := trod_one_int g1
  obtain ⟨z2, rfl, w2⟩ := trod_one_int g2
  obtain ⟨z3, rfl, w3⟩ := trod_one_int g3
  obtain ⟨z4, rfl, w4⟩ := trod_one_int g4
  obtain ⟨z5, rfl, w5⟩ := trod_one_int g5
  obtain ⟨z6, rfl, w6⟩ := trod_one_int g6
  obtain ⟨z7, rfl, w7⟩ := trod_one_int g7
  obtain ⟨z8, rfl, w8⟩ := trod_one_int g8
  obtain ⟨s, rfl, ws⟩ := trod_one_str g9
  refine ⟨⟨z0, [z1, z2, z3, z4, z5, z6, z7, z8], s⟩, ⟨rfl, w0, ?_, ws⟩, rfl⟩
  intro y hy
  simp only [List.mem_cons, List.not_mem_nil, or_false] at hy
  rcases hy with rfl | rfl | rfl | rfl | rfl | rfl | rfl | rfl <;> assumption

set_option maxRecDepth 100000 in
theorem open_op {H : Type} {enc : TypeId × Value → H} {W : World} {base : Nat} {v : Value} {d : DataW H} {p : List MemPlace} (hv : Value.okWide Tryz.prog W .any base 31 v)
    (h : DataW.Trod enc Tryz.prog W 0 (fun _ => true) true 31 v d p) : ∃ o : OpV, OpOk o ∧ v = .agg (opCells o).toArray := by
  obtain ⟨cs, rfl, hsz⟩ := okWide_struct Tryz.underlying31 hv
  obtain ⟨fuel, hf⟩ := h
  obtain ⟨o, ho, hc⟩ := op_of_trod (cs := cs.toList) (by rw [Array.length_toList]; exact hsz.trans (by kernel_rfl)) hf
  exact ⟨o, ho, by rw [← hc]⟩
end Go.Proofs.YtnaabaahfjklhaaGreat
