/- Blocks that are known whole: read and written cell by cell, or all at once. -/
import Derived.Test.YtoiaigbagfalmaaCommon
import Derived.Deep.MidRow
namespace Go.Proofs.Ytoiaigbagfalmaa
open Go.RowKit Go.ChangeShapes Go.WideShapes Go.Joins
set_option linter.unusedVariables false

/-- Block b has the cells cs. -/
def BlkAt (w : World) (b : Nat) (T : TypeId) (cs : List Value) : Prop := w.heap[b]? = some (.cells cs.toArray T (0, 0))

section
variable {w w' : World} {b : Nat} {T : TypeId} {cs : List Value}
theorem BlkAt.lt (h : BlkAt w b T cs) : b < w.heap.size := (Array.getElem?_eq_some_iff.1 h).1
theorem BlkAt.new (w : World) (T : TypeId) (cs : List Value) : BlkAt (w.alloc (.cells cs.toArray T)) w.heap.size T cs := heap_alloc_new _ _
theorem BlkAt.newAt {w : World} {n : Nat} (h : w.heap.size = n) (T : TypeId) (cs : List Value) : BlkAt (w.alloc (.cells cs.toArray T)) n T cs := h ▸ BlkAt.new w T cs
theorem BlkAt.cell (h : BlkAt w b T cs) {i : Nat} {v : Value} (hi : cs[i]? = some v) : w.cell? ⟨b, i, none⟩ = some v := by
  rw [cell_of_row _ _ _ _ _ _ h, List.getElem?_toArray, hi]
theorem BlkAt.free (h : BlkAt w b T cs) (i : Nat) : w.frozen? ⟨b, i, none⟩ = false := by unfold BlkAt at h; simp [World.frozen?, h]
theorem BlkAt.below (h : BlkAt w b T cs) (hb : Below w.heap.size w w') : BlkAt w' b T cs := (hb.block b h.lt).trans h
theorem BlkAt.belowAt {n : Nat} (h : BlkAt w b T cs) (hb : Below n w w') (hn : b < n) : BlkAt w' b T cs := (hb.block b hn).trans h
theorem BlkAt.grown {c : Nat} (h : BlkAt w b T cs) (hg : w.grownBy w' (some c)) (hne : b ≠ c) : BlkAt w' b T cs := (hg.block _ h.lt (by simpa using hne)).trans h
theorem BlkAt.alloc (h : BlkAt w b T cs) (o : Obj) : BlkAt (w.alloc o) b T cs := h.below ((Below.refl _ _).alloc (Nat.le_refl _) o)
theorem BlkAt.drew (h : BlkAt w b T cs) : BlkAt w.drew b T cs := h
theorem BlkAt.drewN (h : BlkAt w b T cs) (n : Nat) : BlkAt (w.drewN n) b T cs := h
theorem BlkAt.set (h : BlkAt w b T cs) (i : Nat) (v : Value) : BlkAt (w.setCell ⟨b, i, none⟩ v) b T (cs.set i v) := by
  unfold BlkAt at h ⊢
  simp [World.setCell, Array.getElem?_modify, h]
theorem BlkAt.range (h : BlkAt w b T cs) : w.rangeAt b 0 cs := fun j v hv => by
  rw [Nat.zero_add]
  exact h.cell hv
theorem BlkAt.load (h : BlkAt w b T cs) {U : TypeId} {d : TypeDesc} (hu : Try.prog.underlying U = some d) (hd : d.isRow = true) (hi : (Try.prog.info? U).map (·.size) = some cs.length) :
    (Instr.loadAt U (.pointer (some ⟨b, 0, none⟩))).run Try.prog w = .ok (.agg cs.toArray) w := run_loadAt_mid w b 0 U cs d h.range hu hd hi
theorem BlkAt.loadVar (h : BlkAt w b T cs) {U : TypeId} {d : TypeDesc} (hu : Try.prog.underlying U = some d) (hd : d.isRow = true) (hi : (Try.prog.info? U).map (·.size) = some cs.length) :
    (Go.loadVar U ⟨b, 0, none⟩).run Try.prog w = .ok (.agg cs.toArray) w := run_loadVar_mid w b 0 U cs d h.range hu hd hi
end

theorem setCells_blk (b : Nat) (T : TypeId) : ∀ (vs cs pre : List Value) (w : World), BlkAt w b T (pre ++ cs) → vs.length = cs.length → BlkAt (w.setCells b pre.length vs) b T (pre ++ vs)
  | [], cs, pre, w, h, hl => by
    have : cs = [] := List.length_eq_zero_iff.1 hl.symm
    subst this
    exact h
  | v :: vs, [], pre, w, h, hl => by simp at hl
  | v :: vs, c :: cs, pre, w, h, hl => by
    have h1 := h.set pre.length v
    have e : (pre ++ c :: cs).set pre.length v = (pre ++ [v]) ++ cs := by
      rw [List.set_append_right _ _ (Nat.le_refl _)]
      simp
    rw [e] at h1
    have h2 := setCells_blk b T vs cs (pre ++ [v]) _ h1 (by simpa using hl)
    rw [List.append_assoc, List.length_append] at h2
    exact h2
theorem grown_setCells (b : Nat) : ∀ (vs : List Value) (o : Nat) (w : World), w.grownBy (w.setCells b o vs) (some b)
  | [], o, w => World.grownBy.refl _ _
  | v :: vs, o, w => (grown_setCell w b o v).trans (grown_setCells b vs (o + 1) _)
theorem BlkAt.store {w : World} {b : Nat} {T : TypeId} {cs vs : List Value} (h : BlkAt w b T cs) (hl : vs.length = cs.length) {U : TypeId} (hi : (Try.prog.info? U).map (·.size) = some vs.length) (h1 : ∀ v ∈ vs, v.oneCell' = true) :
    (Instr.storeAt U (.pointer (some ⟨b, 0, none⟩)) (.agg vs.toArray)).run Try.prog w = .ok () (w.setCells b 0 vs) := by
  have := run_storeAt_mid (P := Try.prog) w b 0 U vs.toArray (fun j hj => by
    rw [Nat.zero_add]
    have hj' : j < cs.length := by simp at hj; omega
    exact ⟨by rw [h.cell (List.getElem?_eq_getElem hj')]; rfl, h.free j⟩) (by simpa using hi) (all_oneCell_toArray h1)
  simpa using this
theorem BlkAt.stored {w : World} {b : Nat} {T : TypeId} {cs vs : List Value} (h : BlkAt w b T cs) (hl : vs.length = cs.length) : BlkAt (w.setCells b 0 vs) b T vs := setCells_blk b T vs cs [] w h hl

/-- Numbers as cells. -/
def icells (l : List Int) : List Value := l.map (.int .i64)
theorem icells_len (l : List Int) : (icells l).length = l.length := by simp [icells]
theorem icells_get {l : List Int} {i : Nat} {x : Int} (h : l[i]? = some x) : (icells l)[i]? = some (.int .i64 x) := by simp [icells, h]
end Go.Proofs.Ytoiaigbagfalmaa
